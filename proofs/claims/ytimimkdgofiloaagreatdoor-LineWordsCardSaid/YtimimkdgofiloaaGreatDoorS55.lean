/- A line of numbers parsed. Printed by gen.py. -/
import Derived.Test.YtimimkdgofiloaaGreatDoorS54
namespace Go.Proofs.YtimimkdgofiloaaGreatDoor
open Go Go.Q
/-- A step's cells: a word, numbers. -/
def stepC (w : ByteArray) (n : CV) : List CV := [.d (.s w), n, .d (.i .i64 0), .d (.s ⟨#[]⟩), .d (.s ⟨#[]⟩), .d (.s ⟨#[]⟩), .r nilV, .r nilV, .r nilV, .d (.i .i64 0), .d (.i .i64 0), .d (.i .i64 0), .d (.i .i64 0), .d (.b false), .d (.b false), .r nilV, .r nilV]
abbrev noneC : List CV := stepC ⟨#[]⟩ (.r nilV)
theorem nums_one {fs : List (List UInt8)} {a b : List Int} (ha : NumsOf fs a) (hb : NumsOf fs b) : a = b := by
  have h := ha.1.symm.trans hb.1
  have : ∀ (a b : List Int), a.map some = b.map some → a = b := by
    intro a
    induction a with
    | nil => intro b h; cases b with
      | nil => rfl
      | cons _ _ => simp at h
    | cons x a ih => intro b h; cases b with
      | nil => simp at h
      | cons y b => simp only [List.map_cons, List.cons.injEq, Option.some.injEq] at h; rw [h.1, ih b h.2]
  exact this a b h
theorem no_nums {fs : List (List UInt8)} {a : List Int} (h : NoNums fs) (ha : NumsOf fs a) : False := by
  obtain ⟨f, hf, h1⟩ := h
  have : numW f ∈ fs.map numW := List.mem_map_of_mem hf
  rw [ha.1] at this
  obtain ⟨n, hn, he⟩ := List.mem_map.1 this
  have := h1 n he.symm
  have := ha.2 n hn
  omega
/-- Are there just so many numbers? -/
def NumsN (r : List UInt8) (n : Int) (ns : List Int) : Prop := NumsOf (fieldsL r) ns ∧ (ns.length : Int) = n
/-- What the line's end comes to, where it's numbers. -/
def ReadN (w : ByteArray) (r : List UInt8) (n : Int) (e : Int) (cs : List CV) : Prop := (∃ ns, NumsN r n ns ∧ e = 0 ∧ cs = stepC w (.d (.l 1 (ints ns)))) ∨ (e = 2 ∧ cs = stepC w (.r nilV) ∧ ∀ ns, ¬ NumsN r n ns)
theorem trimL_le (l : List UInt8) : (trimL l).length ≤ l.length := by
  unfold trimL
  induction l with
  | nil => exact Nat.le_refl _
  | cons c l ih =>
    rw [List.dropWhile_cons]
    split
    · simp; omega
    · exact Nat.le_refl _
theorem cutL_le (l : List UInt8) : (cutL l).2.1.length ≤ l.length := by
  unfold cutL
  split
  · exact Nat.zero_le _
  · rw [List.length_drop]; omega
/-- A line: its word; what is behind it. -/
def wordL (l : List UInt8) : ByteArray := mkB (cutL (trimL l)).1
def restL (l : List UInt8) : List UInt8 := (cutL (trimL l)).2.1
def ParseN (l : List UInt8) (e : Int) (cs : List CV) : Prop := match lookF formsL (wordL l) with
  | none => e = 2 ∧ cs = noneC
  | some q => (∃ ns, NumsN (restL l) q.2 ns ∧ e = 0 ∧ cs = stepC (wordL l) (.d (.l 1 (ints ns)))) ∨ (e = 2 ∧ cs = noneC ∧ ∀ ns, ¬ NumsN (restL l) q.2 ns)
set_option maxHeartbeats 1000000 in
theorem f20 (a n : Int) (ha1 : a ≠ 1) (ha3 : a ≠ 3) (w : ByteArray) (r : List UInt8) (hr : r.length ≤ 1000000) (b : Nat) : Fc Tryz.prog 20 [P_ b 0, .g [.d (.i .i64 a), .d (.i .i64 n)], S_ (mkB r)] [.blk b 40 (stepC w (.r nilV))] (fun x Ω => ∃ e cs, x = aN e ∧ Ω = [.blk b 40 cs] ∧ ReadN w r n e cs) := by
  refine Fc.enter Tryz.func20 rfl Tryz.ntmps20 rfl fun X w => ?_
  refine T.rg ?_
  refine L.box rfl rfl fun b4 => ?_
  refine L.as rfl rfl ?_
  refine L.nil ?_
  refine T.of_seq ?_
  refine T.rg ?_
  refine L.fa Tryz.underlying56 rfl s3 rfl rfl ?_
  refine L.ld 0 o3 rfl rfl rfl rfl ?_
  refine L.nil ?_
  refine T.block ?_
  refine T.rg ?_
  refine L.cmp rfl rfl rfl rfl ?_
  refine L.as rfl rfl ?_
  refine L.nil ?_
  refine T.cond rfl (fun h29 => ?_) (fun h29 => ?_)
  · skip
    exact absurd (by simpa using h29) ha1
  · skip
    refine T.rg ?_
    refine L.cmp rfl rfl rfl rfl ?_
    refine L.as rfl rfl ?_
    refine L.nil ?_
    refine T.cond rfl (fun h40 => ?_) (fun h40 => ?_)
    · skip
      exact absurd (by simpa using h40) ha3
    · skip
      refine T.rg ?_
      refine L.mv rfl rfl ?_
      refine L.call e30 rfl rfl (f30 r hr) ?_
      rintro _ _ ⟨rfl, ⟨ns, hns, rfl⟩ | ⟨hno, rfl⟩⟩
      · skip
        skip
        refine L.mv rfl rfl ?_
        refine L.ex rfl rfl rfl ?_
        refine L.ex rfl rfl rfl ?_
        refine L.as rfl rfl ?_
        refine L.as rfl rfl ?_
        refine L.nil ?_
        refine T.of_seq ?_
        refine T.rg ?_
        refine L.mv rfl rfl ?_
        refine L.not rfl rfl ?_
        refine L.mv rfl rfl ?_
        refine L.caseB 18 rfl (fun h18 => ?_) (fun h18 => ?_)
        · skip
          cases h18
        · skip
          refine L.on rfl rfl ?_
          refine L.mv rfl rfl ?_
          refine L.on rfl rfl ?_
          refine L.lenL Tryz.underlying22 rfl rfl fun hl20 => ?_
          rw [ints_len]
          refine L.on rfl rfl ?_
          refine L.fa Tryz.underlying56 rfl s3 rfl rfl ?_
          refine L.on rfl rfl ?_
          refine L.ld 0 o3 rfl rfl rfl rfl ?_
          refine L.on rfl rfl ?_
          refine L.cmp rfl rfl rfl rfl ?_
          refine L.pkF rfl rfl rfl ?_
          refine L.nil ?_
          refine T.cond rfl (fun h24 => ?_) (fun h24 => ?_)
          · skip
            have hne : (ns.length : Int) ≠ n := by simpa using h24
            refine T.rg ?_
            refine L.as rfl rfl ?_
            refine L.nil ?_
            refine T.ret ?_
            refine G.conv (drop_at (i := 0) rfl rfl) ?_
            exact G.ret (res1 Tryz.results20 rfl) ⟨2, _, rfl, rfl, .inr ⟨rfl, rfl, fun ns2 h => hne (by rw [nums_one hns h.1]; exact h.2)⟩⟩
          · skip
            have heq : (ns.length : Int) = n := by simpa using h24
            refine T.skip ?_
            refine T.go (fun _ _ h => h) ?_
            refine T.region ?_
            refine L.mv rfl rfl ?_
            refine L.mv rfl rfl ?_
            refine L.nilck rfl rfl ?_
            refine L.fa Tryz.underlying40 rfl s22 rfl rfl ?_
            refine L.sto 1 s22 rfl rfl rfl rfl rfl ?_
            refine L.last ?_
            refine T.go (fun _ _ h => h) ?_
            refine T.rg ?_
            refine L.mv rfl rfl ?_
            refine L.as rfl rfl ?_
            refine L.nil ?_
            refine T.ret ?_
            refine G.conv (drop_at (i := 0) rfl rfl) ?_
            exact G.ret (res1 Tryz.results20 rfl) ⟨0, _, rfl, rfl, .inl ⟨ns, ⟨hns, heq⟩, rfl, rfl⟩⟩
      · skip
        skip
        refine L.mv rfl rfl ?_
        refine L.ex rfl rfl rfl ?_
        refine L.ex rfl rfl rfl ?_
        refine L.as rfl rfl ?_
        refine L.as rfl rfl ?_
        refine L.nil ?_
        refine T.of_seq ?_
        refine T.rg ?_
        refine L.mv rfl rfl ?_
        refine L.not rfl rfl ?_
        refine L.mv rfl rfl ?_
        refine L.caseB 18 rfl (fun h18 => ?_) (fun h18 => ?_)
        · skip
          refine L.off rfl rfl rfl rfl ?_
          refine L.off rfl rfl rfl rfl ?_
          refine L.off rfl rfl rfl rfl ?_
          refine L.off rfl rfl rfl rfl ?_
          refine L.off rfl rfl rfl rfl ?_
          refine L.pkT rfl rfl rfl ?_
          refine L.nil ?_
          refine T.condT rfl ?_
          refine T.rg ?_
          refine L.as rfl rfl ?_
          refine L.nil ?_
          refine T.ret ?_
          refine G.conv (drop_at (i := 0) rfl rfl) ?_
          exact G.ret (res1 Tryz.results20 rfl) ⟨2, _, rfl, rfl, .inr ⟨rfl, rfl, fun ns2 h => no_nums hno h.1⟩⟩
        · skip
          cases h18

set_option maxHeartbeats 2000000 in
theorem f8 (l : List UInt8) (hl : l.length ≤ 20000) (hk1 : ((lookF formsL (wordL l)).getD (0, 0)).1 ≠ 1) (hk3 : ((lookF formsL (wordL l)).getD (0, 0)).1 ≠ 3) : Fc Tryz.prog 8 [S_ (mkB l)] [] (fun x Ω => Ω = [] ∧ ∃ e cs, x = .t [.g cs, N_ e] ∧ ParseN l e cs) := by
  have htl := trimL_le l
  have hcl := cutL_le (trimL l)
  refine Fc.enter Tryz.func8 rfl Tryz.ntmps8 rfl fun X w => ?_
  refine T.rg ?_
  refine L.alloc z40 rfl rfl fun b2 => ?_
  refine L.as rfl rfl ?_
  refine L.nil ?_
  refine T.of_seq ?_
  refine T.rg ?_
  refine L.mv rfl rfl ?_
  refine L.lenS Tryz.underlying9 rfl rfl ?_
  rw [mkB_size]
  refine L.cmp rfl rfl rfl rfl ?_
  refine L.setB (t := 13) (b' := false) rfl (decide_eq_false (by omega)) ?_
  refine L.nil ?_
  refine T.condF rfl ?_
  refine T.skip ?_
  refine T.go (fun _ _ h => h) ?_
  refine T.rg ?_
  refine L.mv rfl rfl ?_
  refine L.call e18 rfl rfl (f18 l) ?_
  rintro _ _ ⟨rfl, rfl⟩
  refine L.call e17 rfl rfl (f17 (trimL l) (by omega)) ?_
  rintro _ _ ⟨rfl, rfl⟩
  rw [show mkB (cutL (trimL l)).1 = wordL l from rfl, show (cutL (trimL l)).2.1 = restL l from rfl]
  refine L.mv rfl rfl ?_
  refine L.ex rfl rfl rfl ?_
  refine L.ex rfl rfl rfl ?_
  refine L.ex rfl rfl rfl ?_
  refine L.as rfl rfl ?_
  refine L.as rfl rfl ?_
  refine L.as rfl rfl ?_
  refine L.nil ?_
  refine T.rg ?_
  refine L.call e19 rfl rfl f19 ?_
  rintro _ _ ⟨g, rfl, rfl⟩
  refine L.mv rfl rfl ?_
  refine L.lookOk 0 zeroF Tryz.underlying58 Tryz.underlying9 z56 rfl rfl rfl (by rw [look_get]; rfl) rfl ?_
  rw [look_get, look_is]
  refine L.mv rfl rfl ?_
  refine L.ex rfl rfl rfl ?_
  refine L.ex rfl rfl rfl ?_
  refine L.alloc z56 rfl rfl fun b7 => ?_
  refine L.stog 0 s56 rfl rfl rfl rfl rfl rfl ?_
  refine L.as rfl rfl ?_
  refine L.nil ?_
  refine T.of_seq ?_
  refine T.rg ?_
  refine L.mv rfl rfl ?_
  refine L.not rfl rfl ?_
  refine L.nil ?_
  refine T.cond rfl (fun h29 => ?_) (fun h29 => ?_)
  · skip
    have hno : lookF formsL (wordL l) = none := by
      cases hq : lookF formsL (wordL l) with
      | none => rfl
      | some q => rw [hq] at h29; cases h29
    refine T.rg ?_
    refine L.bld p40 z40 rfl rfl rfl rfl rfl ?_
    refine L.stog 2 s40 rfl rfl rfl rfl rfl rfl ?_
    refine L.as rfl rfl ?_
    refine L.nil ?_
    refine T.ret ?_
    exact G.retW (dropL [(0 : Nat), 0, 0] rfl) (resCT (i := 2) Tryz.results8 rfl a40 s40 rfl rfl rfl) ⟨rfl, 2, noneC, rfl, by unfold ParseN; rw [hno]; exact ⟨rfl, rfl⟩⟩
  · skip
    obtain ⟨q, hq⟩ : ∃ q, lookF formsL (wordL l) = some q := by
      cases hq : lookF formsL (wordL l) with
      | none => rw [hq] at h29; cases h29
      | some q => exact ⟨q, rfl⟩
    rw [hq] at hk1 hk3 ⊢
    refine T.skip ?_
    refine T.go (fun _ _ h => h) ?_
    refine T.rg ?_
    refine L.mv rfl rfl ?_
    refine L.bld p40 z40 rfl rfl rfl rfl rfl ?_
    refine L.alloc z40 rfl rfl fun b9 => ?_
    refine L.stog 0 s40 rfl rfl rfl rfl rfl rfl ?_
    refine L.nil ?_
    refine T.rg ?_
    refine L.ldg 1 a56 s56 rfl rfl rfl rfl rfl ?_
    refine L.mv rfl rfl ?_
    refine L.callO [] [_] [_, _, _] rfl e20 rfl rfl (f20 q.1 q.2 hk1 hk3 (wordL l) (restL l) (by unfold restL; omega) b9) ?_
    rintro _ _ ⟨e, cs, rfl, rfl, hR⟩
    simp only [List.cons_append, List.nil_append]
    refine L.as rfl rfl ?_
    refine L.nil ?_
    refine T.of_seq ?_
    refine T.rg ?_
    refine L.mv rfl rfl ?_
    refine L.cmp rfl rfl rfl rfl ?_
    refine L.nil ?_
    refine T.cond rfl (fun h37 => ?_) (fun h37 => ?_)
    · skip
      have he : e ≠ 0 := by simpa using h37
      have hR2 : e = 2 ∧ ∀ ns, ¬ NumsN (restL l) q.2 ns := by
        rcases hR with ⟨_, _, h0, _⟩ | ⟨h2, _, h3⟩
        · exact absurd h0 he
        · exact ⟨h2, h3⟩
      refine T.rg ?_
      refine L.bld p40 z40 rfl rfl rfl rfl rfl ?_
      refine L.mv rfl rfl ?_
      refine L.stog 3 s40 rfl rfl rfl rfl rfl rfl ?_
      refine L.as rfl rfl ?_
      refine L.nil ?_
      refine T.ret ?_
      exact G.retW (dropL [(0 : Nat), 0, 0, 0] rfl) (resCT (i := 3) Tryz.results8 rfl a40 s40 rfl rfl rfl) ⟨rfl, e, noneC, rfl, by unfold ParseN; rw [hq]; exact .inr ⟨hR2.1, rfl, hR2.2⟩⟩
    · skip
      have he : e = 0 := by simpa using h37
      obtain ⟨ns, hns, rfl⟩ : ∃ ns, NumsN (restL l) q.2 ns ∧ cs = stepC (wordL l) (.d (.l 1 (ints ns))) := by
        rcases hR with ⟨ns, h1, _, h2⟩ | ⟨h2, _, _⟩
        · exact ⟨ns, h1, h2⟩
        · omega
      refine T.skip ?_
      refine T.go (fun _ _ h => h) ?_
      refine T.rg ?_
      refine L.ldg 0 a40 s40 rfl rfl rfl rfl rfl ?_
      refine L.stog 3 s40 rfl rfl rfl rfl rfl rfl ?_
      refine L.as rfl rfl ?_
      refine L.nil ?_
      refine T.ret ?_
      exact G.retW (dropL [(0 : Nat), 0, 0, 0] rfl) (resCT (i := 3) Tryz.results8 rfl a40 s40 rfl rfl rfl) ⟨rfl, 0, _, rfl, by unfold ParseN; rw [hq]; exact .inl ⟨ns, hns, rfl, rfl⟩⟩
end Go.Proofs.YtimimkdgofiloaaGreatDoor
