/- A line parsed, whatever belongs to its word. Printed by gen.py. -/
import Derived.Test.YtimimkdgofiloaaGreatDoorS64
import Derived.Test.YtimimkdgofiloaaGreatDoorS55
import Derived.Test.YtimimkdgofiloaaGreatDoorS7
namespace Go.Proofs.YtimimkdgofiloaaGreatDoor
open Go Go.Q
set_option maxHeartbeats 2000000 in
theorem f39z (s : ByteArray) (hs0 : s.size = 0) (b : Nat) : FcP Tryz.prog 39 [P_ b 0] [rn b s 0 0] (fun _ _ => False) (fun u => ∃ m, u = wrongV m 2) := by
  refine FcP.enter Tryz.func39 rfl Tryz.ntmps39 rfl fun X w => ?_
  refine T.rg ?_
  refine L.alloc z36 rfl rfl fun b2 => ?_
  refine L.nil ?_
  refine T.of_seq ?_
  refine T.rg ?_
  refine L.mv rfl rfl ?_
  refine L.callO [_] [_] [] rfl e68 rfl rfl (f68 b s 0 0 (Nat.zero_le _) (by omega)) ?_
  rintro _ _ ⟨rfl, rfl⟩
  obtain ⟨a, ha⟩ : ∃ a, blanksN s 0 = a := ⟨_, rfl⟩
  rw [ha, nextB_out (by omega)]
  clear ha
  refine L.nil ?_
  refine T.block ?_
  refine T.rg ?_
  refine L.cmp rfl rfl rfl rfl ?_
  refine L.as rfl rfl ?_
  refine L.nil ?_
  refine T.cond rfl (fun h5 => ?_) (fun h5 => ?_)
  · skip
    cases h5
  · skip
    refine T.rg ?_
    refine L.cmp rfl rfl rfl rfl ?_
    refine L.as rfl rfl ?_
    refine L.nil ?_
    refine T.cond rfl (fun h9 => ?_) (fun h9 => ?_)
    · skip
      cases h9
    · skip
      refine T.skip ?_
      refine T.go (fun _ _ h => h) ?_
      refine T.rg ?_
      refine L.mv rfl rfl ?_
      refine L.nilck rfl rfl ?_
      refine L.fa Tryz.underlying90 rfl s3 rfl rfl ?_
      refine L.ld 1 o3 rfl rfl rfl rfl ?_
      refine L.callP [] [] [_, _] rfl e41 rfl rfl (f41 _ _) (fun u hu => G.pan ⟨_, hu⟩) ?_
      exact fun _ _ h => h.elim

set_option maxHeartbeats 2000000 in
theorem f28z (s : ByteArray) (hs0 : s.size = 0) : FcP Tryz.prog 28 [S_ s] [] (fun x Ω => Ω = [] ∧ ∃ (cs : List CV) (m : Int), cs.length = 14 ∧ x = .t [.g cs, N_ m, N_ 2]) (fun _ => False) := by
  refine FcP.enter Tryz.func28 rfl Tryz.ntmps28 rfl fun X w => ?_
  refine T.rg ?_
  refine L.alloc z36 rfl rfl fun b2 => ?_
  refine L.alloc z3 rfl rfl fun b3 => ?_
  refine L.alloc z41 rfl rfl fun b4 => ?_
  refine L.nil ?_
  refine T.of_seq ?_
  refine T.rg ?_
  refine L.mv rfl rfl ?_
  refine L.lenS Tryz.underlying9 rfl rfl ?_
  refine L.cmp rfl rfl rfl rfl ?_
  refine L.nil ?_
  refine T.cond rfl (fun h8 => ?_) (fun h8 => ?_)
  · skip
    exfalso
    have := of_decide_eq_true h8; omega
  · skip
    refine T.skip ?_
    refine T.go (fun _ _ h => h) ?_
    refine T.rg ?_
    refine L.mf rfl rfl ?_
    refine L.defer rfl rfl rfl ?_
    refine L.nil ?_
    refine T.rg ?_
    refine L.mv rfl rfl ?_
    refine L.bld p90 z90 rfl rfl rfl rfl rfl ?_
    refine L.box rfl rfl fun b13 => ?_
    refine L.as rfl rfl ?_
    refine L.nil ?_
    refine T.rg ?_
    refine L.mv rfl rfl ?_
    refine L.callP [] [_] [_, _, _] rfl e39 rfl rfl (f39z s hs0 _) (fun u hu => ?_) (fun _ _ h => h.elim)
    obtain ⟨m2, rfl⟩ := hu
    exact G.panR [] [_, _, _] [] e38 (ss := [P_ b2 0, P_ b3 0, P_ b4 0]) (fun _ _ => ⟨rfl, rfl, rfl, trivial⟩) (f38p b2 b3 b4 _ rfl _ _ m2 2) rfl (fun Ω hΩ => by
      subst hΩ
      exact ⟨_, [], ⟨rfl, _, _, rfl, rfl⟩, dropAllQ _, resCCC (i := 2) (j := 1) (k := 0) Tryz.results28 rfl a36 s36 rfl rfl rfl o3 rfl rfl o41 rfl⟩)

theorem f28z' (s : ByteArray) (hs0 : s.size = 0) : Fc Tryz.prog 28 [S_ s] [] (fun x Ω => Ω = [] ∧ ∃ (cs : List CV) (m : Int), cs.length = 14 ∧ x = .t [.g cs, N_ m, N_ 2]) :=
  fun X w args h1 h2 => (f28z s hs0 X w args h1 h2).mono fun _ _ h => h.elim id fun ⟨_, _, h, _⟩ => h.elim
theorem f28c (s : ByteArray) (hs : s.size ≤ 800) : Fc Tryz.prog 28 [S_ s] [] (fun x Ω => Ω = [] ∧ ∃ (cs : List CV) (m k : Int), cs.length = 14 ∧ x = .t [.g cs, N_ m, N_ k] ∧ (s.size = 0 → k = 2)) := by
  rcases Nat.eq_zero_or_pos s.size with h0 | h0
  · exact (f28z' s h0).mono fun x Ω ⟨h1, cs, m, h2, h3⟩ => ⟨h1, cs, m, 2, h2, h3, fun _ => rfl⟩
  · exact (f28' s hs).mono fun x Ω ⟨h1, cs, m, k, h2, h3⟩ => ⟨h1, cs, m, k, h2, h3, fun h => by omega⟩
theorem readS_empty {s : ByteArray} (h : s.size = 0) : readS s = none := by
  obtain rfl : s = ⟨#[]⟩ := by
    cases s with
    | mk d => cases d with
      | mk l => cases l with
        | nil => rfl
        | cons x l => simp [ByteArray.size] at h
  kernel_rfl
/-- What the line's end comes to, whatever it is. -/
def ReadW (w : ByteArray) (a : Int) (r : List UInt8) (n : Int) (e : Int) (cs : List CV) : Prop := cs.length = 17 ∧ ((a = 1 ∨ a = 3) → r = [] → e = 2) ∧ (a ≠ 1 → a ≠ 3 → ReadN w r n e cs)
theorem readN_len {w : ByteArray} {r : List UInt8} {n e : Int} {cs : List CV} (h : ReadN w r n e cs) : cs.length = 17 := by
  rcases h with ⟨ns, _, _, rfl⟩ | ⟨_, rfl, _⟩ <;> rfl

set_option maxHeartbeats 1000000 in
theorem f20v (w : ByteArray) (r : List UInt8) (hr : r.length ≤ 400) (n : Int) (b : Nat) : Fc Tryz.prog 20 [P_ b 0, .g [.d (.i .i64 1), .d (.i .i64 n)], S_ (mkB r)] [.blk b 40 (stepC w (.r nilV))] (fun x Ω => ∃ e cs, x = aN e ∧ Ω = [.blk b 40 cs] ∧ cs.length = 17 ∧ (r = [] → e = 2)) := by
  refine Fc.enter Tryz.func20 rfl Tryz.ntmps20 rfl fun X w => ?_
  refine T.rg ?_
  refine L.box rfl rfl fun b4 => ?_
  refine L.as rfl rfl ?_
  refine L.nil ?_
  refine T.of_seq ?_
  refine T.rg ?_
  refine L.fa Tryz.underlying56 rfl s3 rfl rfl ?_
  refine L.ld 0 o3 rfl rfl rfl rfl ?_
  refine L.nil ?_
  refine T.block ?_
  refine T.rg ?_
  refine L.cmp rfl rfl rfl rfl ?_
  refine L.setB (t := 30) (b' := true) rfl (by decide) ?_
  refine L.as rfl rfl ?_
  refine L.nil ?_
  refine T.condT rfl ?_
  refine T.region ?_
  refine L.mv rfl rfl ?_
  refine L.mv rfl rfl ?_
  refine L.call e28 rfl rfl (f28c (mkB r) (by rw [mkB_size]; omega)) ?_
  rintro _ _ ⟨rfl, cs, m, k, hcs, rfl, hk⟩
  rw [mkB_size] at hk
  refine L.mv rfl rfl ?_
  refine L.ex rfl rfl rfl ?_
  refine L.ex rfl rfl rfl ?_
  refine L.ex rfl rfl rfl ?_
  refine L.nilck rfl rfl ?_
  refine L.fa Tryz.underlying40 rfl s36 rfl rfl ?_
  refine L.stgp 1 s36 rfl rfl rfl hcs (by show 2 + 14 ≤ 17; omega) rfl ?_
  refine L.as rfl rfl ?_
  refine L.last ?_
  refine T.go (fun _ _ h => h) ?_
  refine T.rg ?_
  refine L.mv rfl rfl ?_
  refine L.as rfl rfl ?_
  refine L.nil ?_
  refine T.ret ?_
  refine G.conv (drop_at (i := 0) rfl rfl) ?_
  exact G.ret (res1 Tryz.results20 rfl) ⟨k, _, rfl, rfl, by rw [List.length_append, List.length_append, hcs]; rfl, fun h => hk (by rw [h]; rfl)⟩

set_option maxHeartbeats 1000000 in
theorem f20s (w : ByteArray) (r : List UInt8) (hr : r.length ≤ 400) (n : Int) (b : Nat) : Fc Tryz.prog 20 [P_ b 0, .g [.d (.i .i64 3), .d (.i .i64 n)], S_ (mkB r)] [.blk b 40 (stepC w (.r nilV))] (fun x Ω => ∃ e cs, x = aN e ∧ Ω = [.blk b 40 cs] ∧ cs.length = 17 ∧ (r = [] → e = 2)) := by
  refine Fc.enter Tryz.func20 rfl Tryz.ntmps20 rfl fun X w => ?_
  refine T.rg ?_
  refine L.box rfl rfl fun b4 => ?_
  refine L.as rfl rfl ?_
  refine L.nil ?_
  refine T.of_seq ?_
  refine T.rg ?_
  refine L.fa Tryz.underlying56 rfl s3 rfl rfl ?_
  refine L.ld 0 o3 rfl rfl rfl rfl ?_
  refine L.nil ?_
  refine T.block ?_
  refine T.rg ?_
  refine L.cmp rfl rfl rfl rfl ?_
  refine L.setB (t := 30) (b' := false) rfl (by decide) ?_
  refine L.as rfl rfl ?_
  refine L.nil ?_
  refine T.condF rfl ?_
  refine T.rg ?_
  refine L.cmp rfl rfl rfl rfl ?_
  refine L.setB (t := 41) (b' := true) rfl (by decide) ?_
  refine L.as rfl rfl ?_
  refine L.nil ?_
  refine T.condT rfl ?_
  refine T.region ?_
  refine L.mv rfl rfl ?_
  refine L.mv rfl rfl ?_
  refine L.call e29 rfl rfl (f29 (mkB r) (by rw [mkB_size]; omega)) ?_
  rintro _ _ ⟨rfl, ps, pl, e, rfl, hm⟩
  refine L.mv rfl rfl ?_
  refine L.ex rfl rfl rfl ?_
  refine L.ex rfl rfl rfl ?_
  refine L.ex rfl rfl rfl ?_
  refine L.nilck rfl rfl ?_
  refine L.fa Tryz.underlying40 rfl s38 rfl rfl ?_
  refine L.sto 1 s38 rfl rfl rfl rfl rfl ?_
  refine L.as rfl rfl ?_
  refine L.last ?_
  refine T.go (fun _ _ h => h) ?_
  refine T.rg ?_
  refine L.mv rfl rfl ?_
  refine L.as rfl rfl ?_
  refine L.nil ?_
  refine T.ret ?_
  refine G.conv (drop_at (i := 0) rfl rfl) ?_
  exact G.ret (res1 Tryz.results20 rfl) ⟨e, _, rfl, rfl, rfl, fun h => by subst h; rw [readS_empty rfl] at hm; exact hm.1⟩

theorem f20w (a n : Int) (w : ByteArray) (r : List UInt8) (hr : r.length ≤ 400) (b : Nat) : Fc Tryz.prog 20 [P_ b 0, .g [.d (.i .i64 a), .d (.i .i64 n)], S_ (mkB r)] [.blk b 40 (stepC w (.r nilV))] (fun x Ω => ∃ e cs, x = aN e ∧ Ω = [.blk b 40 cs] ∧ ReadW w a r n e cs) := by
  by_cases h1 : a = 1
  · subst h1
    exact (f20v w r hr n b).mono fun x Ω ⟨e, cs, h2, h3, h4, h5⟩ => ⟨e, cs, h2, h3, h4, fun _ => h5, fun h => absurd rfl h⟩
  by_cases h3 : a = 3
  · subst h3
    exact (f20s w r hr n b).mono fun x Ω ⟨e, cs, h2, h3, h4, h5⟩ => ⟨e, cs, h2, h3, h4, fun _ => h5, fun _ h => absurd rfl h⟩
  exact (f20 a n h1 h3 w r (by omega) b).mono fun x Ω ⟨e, cs, h2, h4, h5⟩ => ⟨e, cs, h2, h4, readN_len h5, fun h => h.elim (fun h => absurd h h1) (fun h => absurd h h3), fun _ _ => h5⟩
/-- A line parsed: its error, its cells. -/
def ParseW (l : List UInt8) (e : Int) (cs : List CV) : Prop := cs.length = 17 ∧ match lookF formsL (wordL l) with
  | none => e = 2
  | some q => ((q.1 = 1 ∨ q.1 = 3) → restL l = [] → e = 2) ∧ (q.1 ≠ 1 → q.1 ≠ 3 → (∃ ns, NumsN (restL l) q.2 ns ∧ e = 0 ∧ cs = stepC (wordL l) (.d (.l 1 (ints ns)))) ∨ (e ≠ 0 ∧ ∀ ns, ¬ NumsN (restL l) q.2 ns))

theorem parseW_bad {l : List UInt8} {q : Int × Int} {e : Int} {cs : List CV} (hq : lookF formsL (wordL l) = some q) (h1 : (q.1 = 1 ∨ q.1 = 3) → restL l = [] → e = 2) (h2 : q.1 ≠ 1 → q.1 ≠ 3 → ReadN (wordL l) (restL l) q.2 e cs) (he : e ≠ 0) : ParseW l e noneC := by
  refine ⟨rfl, ?_⟩
  rw [hq]
  refine ⟨h1, fun h3 h4 => .inr ?_⟩
  rcases h2 h3 h4 with ⟨_, _, h0, _⟩ | ⟨h0, _, h⟩
  · exact absurd h0 he
  · exact ⟨by omega, h⟩
theorem parseW_good {l : List UInt8} {q : Int × Int} {cs : List CV} (hq : lookF formsL (wordL l) = some q) (hc : cs.length = 17) (h1 : (q.1 = 1 ∨ q.1 = 3) → restL l = [] → (0 : Int) = 2) (h2 : q.1 ≠ 1 → q.1 ≠ 3 → ReadN (wordL l) (restL l) q.2 0 cs) : ParseW l 0 cs := by
  refine ⟨hc, ?_⟩
  rw [hq]
  refine ⟨h1, fun h3 h4 => .inl ?_⟩
  rcases h2 h3 h4 with ⟨ns, h4, _, h5⟩ | ⟨h, _⟩
  · exact ⟨ns, h4, rfl, h5⟩
  · omega

set_option maxHeartbeats 2000000 in
theorem f8w (l : List UInt8) (hl : l.length ≤ 400) : Fc Tryz.prog 8 [S_ (mkB l)] [] (fun x Ω => Ω = [] ∧ ∃ e cs, x = .t [.g cs, N_ e] ∧ ParseW l e cs) := by
  have htl := trimL_le l
  have hcl := cutL_le (trimL l)
  refine Fc.enter Tryz.func8 rfl Tryz.ntmps8 rfl fun X w => ?_
  refine T.rg ?_
  refine L.alloc z40 rfl rfl fun b2 => ?_
  refine L.as rfl rfl ?_
  refine L.nil ?_
  refine T.of_seq ?_
  refine T.rg ?_
  refine L.mv rfl rfl ?_
  refine L.lenS Tryz.underlying9 rfl rfl ?_
  rw [mkB_size]
  refine L.cmp rfl rfl rfl rfl ?_
  refine L.setB (t := 13) (b' := false) rfl (decide_eq_false (by omega)) ?_
  refine L.nil ?_
  refine T.condF rfl ?_
  refine T.skip ?_
  refine T.go (fun _ _ h => h) ?_
  refine T.rg ?_
  refine L.mv rfl rfl ?_
  refine L.call e18 rfl rfl (f18 l) ?_
  rintro _ _ ⟨rfl, rfl⟩
  refine L.call e17 rfl rfl (f17 (trimL l) (by omega)) ?_
  rintro _ _ ⟨rfl, rfl⟩
  rw [show mkB (cutL (trimL l)).1 = wordL l from rfl, show (cutL (trimL l)).2.1 = restL l from rfl]
  refine L.mv rfl rfl ?_
  refine L.ex rfl rfl rfl ?_
  refine L.ex rfl rfl rfl ?_
  refine L.ex rfl rfl rfl ?_
  refine L.as rfl rfl ?_
  refine L.as rfl rfl ?_
  refine L.as rfl rfl ?_
  refine L.nil ?_
  refine T.rg ?_
  refine L.call e19 rfl rfl f19 ?_
  rintro _ _ ⟨g, rfl, rfl⟩
  refine L.mv rfl rfl ?_
  refine L.lookOk 0 zeroF Tryz.underlying58 Tryz.underlying9 z56 rfl rfl rfl (by rw [look_get]; rfl) rfl ?_
  rw [look_get, look_is]
  refine L.mv rfl rfl ?_
  refine L.ex rfl rfl rfl ?_
  refine L.ex rfl rfl rfl ?_
  refine L.alloc z56 rfl rfl fun b7 => ?_
  refine L.stog 0 s56 rfl rfl rfl rfl rfl rfl ?_
  refine L.as rfl rfl ?_
  refine L.nil ?_
  refine T.of_seq ?_
  refine T.rg ?_
  refine L.mv rfl rfl ?_
  refine L.not rfl rfl ?_
  refine L.nil ?_
  refine T.cond rfl (fun h29 => ?_) (fun h29 => ?_)
  · skip
    have hno : lookF formsL (wordL l) = none := by
      cases hq : lookF formsL (wordL l) with
      | none => rfl
      | some q => rw [hq] at h29; cases h29
    refine T.rg ?_
    refine L.bld p40 z40 rfl rfl rfl rfl rfl ?_
    refine L.stog 2 s40 rfl rfl rfl rfl rfl rfl ?_
    refine L.as rfl rfl ?_
    refine L.nil ?_
    refine T.ret ?_
    exact G.retW (dropL [(0 : Nat), 0, 0] rfl) (resCT (i := 2) Tryz.results8 rfl a40 s40 rfl rfl rfl) ⟨rfl, 2, noneC, rfl, rfl, by rw [hno]⟩
  · skip
    obtain ⟨q, hq⟩ : ∃ q, lookF formsL (wordL l) = some q := by
      cases hq : lookF formsL (wordL l) with
      | none => rw [hq] at h29; cases h29
      | some q => exact ⟨q, rfl⟩
    rw [hq]
    refine T.skip ?_
    refine T.go (fun _ _ h => h) ?_
    refine T.rg ?_
    refine L.mv rfl rfl ?_
    refine L.bld p40 z40 rfl rfl rfl rfl rfl ?_
    refine L.alloc z40 rfl rfl fun b9 => ?_
    refine L.stog 0 s40 rfl rfl rfl rfl rfl rfl ?_
    refine L.nil ?_
    refine T.rg ?_
    refine L.ldg 1 a56 s56 rfl rfl rfl rfl rfl ?_
    refine L.mv rfl rfl ?_
    refine L.callO [] [_] [_, _, _] rfl e20 rfl rfl (f20w q.1 q.2 (wordL l) (restL l) (by unfold restL; omega) b9) ?_
    rintro _ _ ⟨e, cs, rfl, rfl, hcl17, hR1, hR2⟩
    simp only [List.cons_append, List.nil_append]
    refine L.as rfl rfl ?_
    refine L.nil ?_
    refine T.of_seq ?_
    refine T.rg ?_
    refine L.mv rfl rfl ?_
    refine L.cmp rfl rfl rfl rfl ?_
    refine L.nil ?_
    refine T.cond rfl (fun h37 => ?_) (fun h37 => ?_)
    · skip
      have he : e ≠ 0 := by simpa using h37
      refine T.rg ?_
      refine L.bld p40 z40 rfl rfl rfl rfl rfl ?_
      refine L.mv rfl rfl ?_
      refine L.stog 3 s40 rfl rfl rfl rfl rfl rfl ?_
      refine L.as rfl rfl ?_
      refine L.nil ?_
      refine T.ret ?_
      exact G.retW (dropL [(0 : Nat), 0, 0, 0] rfl) (resCT (i := 3) Tryz.results8 rfl a40 s40 rfl rfl rfl) ⟨rfl, e, noneC, rfl, parseW_bad hq hR1 hR2 he⟩
    · skip
      have he : e = 0 := by simpa using h37
      subst he
      refine T.skip ?_
      refine T.go (fun _ _ h => h) ?_
      refine T.rg ?_
      refine L.ldg (ys := cs) 0 a40 s40 rfl rfl (by rw [List.drop_zero]; exact List.take_of_length_le (by rw [hcl17]; exact Nat.le_refl _)) hcl17 rfl ?_
      refine L.stog 3 s40 rfl rfl rfl rfl (by rw [hcl17]; rfl) rfl ?_
      refine L.as rfl rfl ?_
      refine L.nil ?_
      refine T.ret ?_
      exact G.retW (dropL [(0 : Nat), 0, 0, 0] rfl) (resCT (i := 3) Tryz.results8 rfl a40 s40 rfl (by rw [hcl17]; rfl) rfl) ⟨rfl, 0, cs, rfl, parseW_good hq hcl17 hR1 hR2⟩
end Go.Proofs.YtimimkdgofiloaaGreatDoor
