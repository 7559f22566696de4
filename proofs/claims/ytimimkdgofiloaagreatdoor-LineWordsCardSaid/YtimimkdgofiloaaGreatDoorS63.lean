/- The notation's elements and views. Printed by gen.py. -/
import Derived.Test.YtimimkdgofiloaaGreatDoorS62
import Derived.Test.YtimimkdgofiloaaGreatDoorQw
namespace Go.Proofs.YtimimkdgofiloaaGreatDoor
open Go Go.Q
/-- What a view's reader yields. -/
def VR (b : Nat) (s : ByteArray) (k : Nat) (d : Int) (x : AV) (Ω : List Ob) : Prop := ∃ (ds : List Go.Q.D) (j : Nat), x = .v (.g (ds.map .d)) ∧ ds.length = 14 ∧ k < j ∧ j ≤ s.size ∧ Ω = [rn b s j d]
abbrev zeroD : List Go.Q.D := [.i .i64 0, .s ⟨#[]⟩, .s ⟨#[]⟩, .s ⟨#[]⟩, .l 1 [], .l 2 [], .l 2 [], .i .i64 0, .i .i64 0, .i .i64 0, .i .i64 0, .b false, .b false, .l 14 []]
abbrev zeroC : List CV := [.d (.i .i64 0), .d (.s ⟨#[]⟩), .d (.s ⟨#[]⟩), .d (.s ⟨#[]⟩), .r nilV, .r nilV, .r nilV, .d (.i .i64 0), .d (.i .i64 0), .d (.i .i64 0), .d (.i .i64 0), .d (.b false), .d (.b false), .r nilV]
theorem len_snoc_lt {α : Type} (l : List α) (x : α) : l.length < (l ++ [x]).length := by rw [List.length_append]; exact Nat.lt_succ_self _
theorem nextB_some {s : ByteArray} {a : Nat} (h : nextB s a ≠ 0) : a < s.size := by
  rcases Nat.lt_or_ge a s.size with h1 | h1
  · exact h1
  · exact absurd (nextB_out h1) h
theorem V5.ds (q : V5) (cl : List ByteArray) (kd : List (List Go.Q.D)) : ∃ ds : List Go.Q.D, q.cs (.d (.l 1 (strs cl))) (.d (.l 14 kd)) = ds.map .d ∧ ds.length = 14 := by
  obtain ⟨kd2, tag2, id2, tx2, at3, st3, n0, n1, n2, n3, n4, n5⟩ := q
  exact ⟨[.i .i64 kd2, .s tag2, .s id2, .s tx2, .l 1 (strs cl), .l 2 (ats at3), .l 2 (prs st3), .i .i64 n0, .i .i64 n1, .i .i64 n2, .i .i64 n3, .b n4, .b n5, .l 14 kd], rfl, rfl⟩
set_option maxHeartbeats 8000000 in
theorem f70 (s : ByteArray) (hs : s.size ≤ 800) (N : Nat) (ih : ∀ (b k : Nat) (d : Int), k ≤ s.size → s.size - k < N → 0 ≤ d → d ≤ 40 → FcP Tryz.prog 39 [P_ b 0] [rn b s k d] (VR b s k d) Wr) (b k : Nat) (d : Int) (hk : k < s.size) (hN : s.size - k < N + 1) (hd0 : 0 ≤ d) (hd4 : d ≤ 40) : FcP Tryz.prog 70 [P_ b 0] [rn b s k d] (VR b s k d) (Wr) := by
  refine FcP.enter Tryz.func70 rfl Tryz.ntmps70 rfl fun X w => ?_
  refine T.rg ?_
  refine L.alloc z36 rfl rfl fun b2 => ?_
  refine L.nil ?_
  refine T.of_seq ?_
  refine T.rg ?_
  refine L.mv rfl rfl ?_
  refine L.nilck rfl rfl ?_
  refine L.fa Tryz.underlying90 rfl s3 rfl rfl ?_
  refine L.ld 1 o3 rfl rfl rfl rfl ?_
  refine L.ar (d + 1) rfl rfl rfl (by omega) rfl ?_
  refine L.nilck rfl rfl ?_
  refine L.fa Tryz.underlying90 rfl s3 rfl rfl ?_
  refine L.sto 1 s3 rfl rfl rfl rfl rfl ?_
  refine L.nil ?_
  refine T.rg ?_
  refine L.mv rfl rfl ?_
  refine L.nilck rfl rfl ?_
  refine L.fa Tryz.underlying90 rfl s3 rfl rfl ?_
  refine L.ld 1 o3 rfl rfl rfl rfl ?_
  refine L.cmp rfl rfl rfl rfl ?_
  refine L.nil ?_
  refine T.cond rfl (fun h20 => ?_) (fun h20 => ?_)
  · skip
    refine T.region ?_
    refine L.mv rfl rfl ?_
    refine L.nilck rfl rfl ?_
    refine L.fa Tryz.underlying90 rfl s3 rfl rfl ?_
    refine L.ld 1 o3 rfl rfl rfl rfl ?_
    refine L.callP [] [] [_, _] rfl e41 rfl rfl (f41 _ _) (fun u hu => G.pan ⟨_, _, hu⟩) ?_
    exact fun _ _ h => h.elim
  · skip
    have hd5 : d + 1 ≤ 40 := by have := of_decide_eq_false h20; omega
    refine T.skip ?_
    refine T.go (fun _ _ h => h) ?_
    refine T.rg ?_
    refine L.mv rfl rfl ?_
    refine L.nilck rfl rfl ?_
    refine L.fa Tryz.underlying90 rfl s3 rfl rfl ?_
    refine L.ld 1 o3 rfl rfl rfl rfl ?_
    refine L.ar ((k + 1 : Nat) : Int) rfl rfl rfl (by omega) rfl ?_
    refine L.nilck rfl rfl ?_
    refine L.fa Tryz.underlying90 rfl s3 rfl rfl ?_
    refine L.sto 1 s3 rfl rfl rfl rfl rfl ?_
    refine L.nil ?_
    refine T.rg ?_
    refine L.mv rfl rfl ?_
    refine L.callP [_] [_] [] rfl e93 rfl rfl (f93 b s (k + 1) (d + 1) (by omega) (by omega)) (fun u hu => G.pan hu) ?_
    rintro _ _ ⟨t, a0, j0, rfl, ht0, hts, hkj0, hjs0, rfl⟩
    refine L.mv rfl rfl ?_
    refine L.ex rfl rfl rfl ?_
    refine L.ex rfl rfl rfl ?_
    refine L.as rfl rfl ?_
    refine L.as rfl rfl ?_
    refine L.nil ?_
    refine T.of_seq ?_
    refine T.rg ?_
    refine L.mv rfl rfl ?_
    refine L.call e72 rfl rfl (f72 t (by omega)) ?_
    rintro _ _ ⟨rfl, rfl⟩
    refine L.not rfl rfl ?_
    refine L.nil ?_
    refine T.cond rfl (fun h40 => ?_) (fun h40 => ?_)
    · skip
      refine T.region ?_
      refine L.mv rfl rfl ?_
      refine L.callP [] [] [_, _] rfl e41 rfl rfl (f41 _ _) (fun u hu => G.pan ⟨_, _, hu⟩) ?_
      exact fun _ _ h => h.elim
    · skip
      refine T.skip ?_
      refine T.go (fun _ _ h => h) ?_
      refine T.rg ?_
      refine L.mv rfl rfl ?_
      refine L.bld p36 z36 rfl rfl rfl rfl rfl ?_
      refine L.nilGO (t := 44) [0, 0, 0, 0, 0, 2, 2, 0, 0, 0, 0, 0, 0, 0] rfl rfl ?_
      refine L.alloc z36 rfl rfl fun b5 => ?_
      refine L.stog 0 s36 rfl rfl rfl rfl rfl rfl ?_
      refine L.nil ?_
      refine T.rg ?_
      refine L.mkMap rfl fun g45 => ?_
      refine L.as rfl rfl ?_
      refine L.nil ?_
      refine T.block ?_
      refine T.conv (nil_row 9 1) ?_
      refine T.conv (nil_row 36 14) ?_
      refine T.conv (fun w hs => hs.perm (List.perm_append_comm (l₁ := [_, _, _, _, _]) (l₂ := [_]))) ?_
      refine T.loop (fun m σ Ω => ∃ (j : Nat) (q : V5) (vc vk : Value) (cl : List ByteArray) (kd : List (List Go.Q.D)) (ps : List (ByteArray × Int)), k < j ∧ j ≤ s.size ∧ m = s.size - j ∧ (q.at'.length ≤ j ∧ q.st.length ≤ j ∧ cl.length ≤ j ∧ kd.length ≤ j) ∧ σ = [(6, aR (.map (some g45))), (5, aP b5 0), (2, aP b2 0), (0, aP b 0)] ∧ Ω = [rn b s j (d + 1), .row vk 36 14 kd, .row vc 9 1 (strs cl), cntM g45 ps, .blk b5 36 (q.cs (.r vc) (.r vk)), .blk b2 36 zeroC]) (s.size - j0) _ (⟨j0, ⟨2, t, ⟨#[]⟩, ⟨#[]⟩, [], [], 0, 0, 0, 0, false, false⟩, nilV, nilV, [], [], [], by omega, hjs0, rfl, ⟨Nat.zero_le _, Nat.zero_le _, Nat.zero_le _, Nat.zero_le _⟩, rfl, rfl⟩) (by repeat constructor) ?_
      rintro m σ Ω ⟨j, q, vc, vk, cl, kd, ps, hkj, hjs, rfl, ⟨hl1, hl2, hl3, hl4⟩, rfl, rfl⟩
      refine T.block ?_
      refine T.rg ?_
      refine L.mv rfl rfl ?_
      refine L.callO [] [_] [_, _, _, _, _] rfl e68 rfl rfl (f68 b s j (d + 1) hjs (by omega)) ?_
      rintro _ _ ⟨rfl, rfl⟩
      obtain ⟨a, ha⟩ : ∃ a, blanksN s j = a := ⟨_, rfl⟩
      have hja : j ≤ a := ha ▸ blanksN_ge s j
      have has : a ≤ s.size := ha ▸ blanksN_le hjs
      rw [ha]
      clear ha
      obtain ⟨nb, hnb⟩ : ∃ nb, nextB s a = nb := ⟨_, rfl⟩
      have hsome : nb ≠ 0 → a < s.size := fun h => nextB_some (by rw [hnb]; exact h)
      rw [hnb]
      clear hnb
      refine L.nil ?_
      refine T.block ?_
      refine T.rg ?_
      refine L.cmp rfl rfl rfl rfl ?_
      refine L.as rfl rfl ?_
      refine L.nil ?_
      refine T.cond rfl (fun h59 => ?_) (fun h59 => ?_)
      · skip
        have halt : a < s.size := hsome (by rintro rfl; revert h59; decide)
        refine T.rg ?_
        refine L.mv rfl rfl ?_
        refine L.nilck rfl rfl ?_
        refine L.fa Tryz.underlying90 rfl s3 rfl rfl ?_
        refine L.ld 0 o3 rfl rfl rfl rfl ?_
        refine L.ar ((a + 1 : Nat) : Int) rfl rfl rfl (by omega) rfl ?_
        refine L.nilck rfl rfl ?_
        refine L.fa Tryz.underlying90 rfl s3 rfl rfl ?_
        refine L.sto 0 s3 rfl rfl rfl rfl rfl ?_
        refine L.nil ?_
        refine T.rg ?_
        refine L.mv rfl rfl ?_
        refine L.nilck rfl rfl ?_
        refine L.fa Tryz.underlying90 rfl s3 rfl rfl ?_
        refine L.ld 0 o3 rfl rfl rfl rfl ?_
        refine L.ar (d) rfl rfl rfl (by omega) rfl ?_
        refine L.nilck rfl rfl ?_
        refine L.fa Tryz.underlying90 rfl s3 rfl rfl ?_
        refine L.sto 0 s3 rfl rfl rfl rfl rfl ?_
        refine L.nil ?_
        refine T.rg ?_
        obtain ⟨kd2, tag2, id2, tx2, at3, st3, n0, n1, n2, n3, n4, n5⟩ := q
        refine L.conv (cell_pub (j := 4) (o := 13) (i := 1) (sz := 14) rfl rfl rfl rfl rfl rfl) ?_
        refine L.conv (cell_pub (j := 3) (o := 4) (i := 1) (sz := 1) rfl rfl rfl rfl rfl rfl) ?_
        refine L.ldg 2 a36 s36 rfl rfl rfl rfl rfl ?_
        refine L.stog 3 s36 rfl rfl rfl rfl rfl rfl ?_
        refine L.nil ?_
        refine T.ret ?_
        refine G.toP ?_
        exact G.retW (fun w hs => (let h1 := drop_at (i := 1) rfl rfl w hs; let h2 := drop_at (i := 1) rfl rfl w h1.1; let h3 := drop_at (i := 1) rfl rfl w h2.1; ⟨h3.1, h1.2.trans (h2.2.trans (h3.2))⟩)) (resC (i := 3) Tryz.results70 rfl a36 s36 rfl rfl) ⟨[.i .i64 kd2, .s tag2, .s id2, .s tx2, .l 1 (strs cl), .l 2 (ats at3), .l 2 (prs st3), .i .i64 n0, .i .i64 n1, .i .i64 n2, .i .i64 n3, .b n4, .b n5, .l 14 kd], a + 1, rfl, rfl, by omega, by omega, rfl⟩
      · skip
        refine T.of_seq ?_
        refine T.rg ?_
        refine L.cmp rfl rfl rfl rfl ?_
        refine L.as rfl rfl ?_
        refine L.nil ?_
        refine T.cond rfl (fun h76 => ?_) (fun h76 => ?_)
        · skip
          have h76a := h76
          have halt : a < s.size := hsome (by rintro rfl; revert h76; decide)
          refine T.skip ?_
          refine T.go (fun _ _ h => h) ?_
          refine T.cond rfl (fun h76 => ?_) (fun h76 => ?_)
          · skip
            obtain ⟨kd2, tag2, id2, tx2, at3, st3, n0, n1, n2, n3, n4, n5⟩ := q
            refine T.rowF 1 rfl ?_
            rintro ka km rfl
            refine T.drawA 7 [(6, aR (.map (some g45))), (5, aP b5 0), (2, aP b2 0), (0, aP b 0)] ([.row vc 9 1 (strs cl), cntM g45 ps, .blk b5 36 (V5.cs ⟨kd2, tag2, id2, tx2, at3, st3, n0, n1, n2, n3, n4, n5⟩ (.r vc) (.r (.slice ka kd.length km))), .blk b2 36 zeroC]) (fun n => match n with | 3 => [rn b s a (d + 1)] | 6 => [.row (.slice ka kd.length km) 36 14 kd] | _ => []) [] (fun n x _ post => match n with
              | 0 => x = aP b5 13 ∧ post = []
              | 1 => x = aR (.slice ka kd.length km) ∧ post = []
              | 2 => x = aP b 0 ∧ post = []
              | 3 => ∃ ds j2, x = .v (.g (List.map CV.d ds)) ∧ (ds.length = 14 ∧ a < j2 ∧ j2 ≤ s.size) ∧ post = [rn b s j2 (d + 1)]
              | 4 => x = aN kd.length ∧ post = []
              | 5 => x = aL 14 [zeroD] ∧ post = []
              | 6 => ∃ g2 c2, x = aR (slV g2 0 (kd.length + 1) c2) ∧ post = [.row (slV g2 0 (kd.length + 1) c2) 36 14 (kd ++ [zeroD])]
              | _ => False) hmixed rfl rfl rfl (by repeat constructor) (List.Perm.refl _) rfl ⟨?_, ?_, ?_, ?_, ?_, ?_, ?_, trivial⟩ ?_
            · intro X posts σ' Ωf hsb hA
              refine L.fa Tryz.underlying36 rfl s34 (hsb.get rfl) rfl ?_
              exact L.last (G.finG [] ⟨rfl, rfl⟩ rfl)
            · intro X posts σ' Ωf hsb hA
              have hx0 := (hA 0 rfl).2.1
              have l79 : σ'.lookup 79 = some (aP b5 13) := Eq.trans (hA 0 rfl).1 (congrArg some hx0)
              refine L.ld 2 o34 l79 rfl rfl rfl ?_
              exact L.last (G.finG [] ⟨rfl, rfl⟩ rfl)
            · intro X posts σ' Ωf hsb hA
              refine L.mv (hsb.get rfl) rfl ?_
              exact L.last (G.finG [] ⟨rfl, rfl⟩ rfl)
            · intro X posts σ' Ωf hsb hA
              have hx2 := (hA 2 rfl).2.1
              have l81 : σ'.lookup 81 = some (aP b 0) := Eq.trans (hA 2 rfl).1 (congrArg some hx2)
              refine L.callP [] [_] _ rfl e39 (evs1t l81) rfl (ih b a (d + 1) (by omega) (by omega) (by omega) (by omega)) (fun u hu => G.pan hu) ?_
              rintro _ _ ⟨ds, j2, rfl, h1, h2, h3, rfl⟩
              exact L.last (G.finG [_] ⟨ds, j2, rfl, ⟨h1, h2, h3⟩, rfl⟩ rfl)
            · intro X posts σ' Ωf hsb hA
              have hx1 := (hA 1 rfl).2.1
              have l80 : σ'.lookup 80 = some (aR (.slice ka kd.length km)) := Eq.trans (hA 1 rfl).1 (congrArg some hx1)
              refine L.lenX Tryz.underlying34 l80 rfl ?_
              exact L.last (G.finG [] ⟨rfl, rfl⟩ rfl)
            · intro X posts σ' Ωf hsb hA
              refine L.bsN [0, 0, 0, 0, 1, 2, 2, 0, 0, 0, 0, 0, 0, 14] Tryz.underlying34 i36 rfl rfl rfl rfl rfl rfl ?_
              exact L.last (G.finG [] ⟨rfl, rfl⟩ rfl)
            · intro X posts σ' Ωf hsb hA
              have hx1 := (hA 1 rfl).2.1
              have l80 : σ'.lookup 80 = some (aR (.slice ka kd.length km)) := Eq.trans (hA 1 rfl).1 (congrArg some hx1)
              have hx5 := (hA 5 rfl).2.1
              have l84 : σ'.lookup 84 = some (aL 14 [zeroD]) := Eq.trans (hA 5 rfl).1 (congrArg some hx5)
              refine L.app 0 Tryz.underlying34 i36 rfl rfl l80 l84 rfl (by simp; omega) (by simp; omega) rfl (fun _ => rfl) fun v6 => ?_
              refine L.rowV 0 rfl (by simp) ?_
              rintro g2 c2 rfl
              rw [List.length_append]
              exact L.last (G.finG [_] ⟨g2, c2, rfl, rfl⟩ rfl)
            intro X posts hR
            obtain ⟨hx0, hp0⟩ : X 0 = aP b5 13 ∧ posts 0 = [] := hR 0 rfl
            obtain ⟨hx1, hp1⟩ : X 1 = aR (.slice ka kd.length km) ∧ posts 1 = [] := hR 1 rfl
            obtain ⟨hx2, hp2⟩ : X 2 = aP b 0 ∧ posts 2 = [] := hR 2 rfl
            obtain ⟨ds, j2, hx3, hv3, hp3⟩ : ∃ ds j2, X 3 = .v (.g (List.map CV.d ds)) ∧ (ds.length = 14 ∧ a < j2 ∧ j2 ≤ s.size) ∧ posts 3 = [rn b s j2 (d + 1)] := hR 3 rfl
            obtain ⟨hx4, hp4⟩ : X 4 = aN kd.length ∧ posts 4 = [] := hR 4 rfl
            obtain ⟨hx5, hp5⟩ : X 5 = aL 14 [zeroD] ∧ posts 5 = [] := hR 5 rfl
            obtain ⟨g2, c2, hx6, hp6⟩ : ∃ g2 c2, X 6 = aR (slV g2 0 (kd.length + 1) c2) ∧ posts 6 = [.row (slV g2 0 (kd.length + 1) c2) 36 14 (kd ++ [zeroD])] := hR 6 rfl
            have hpp : (List.range 7).flatMap (leftC 7 (fun i => ([] : List (Option Nat)).getD i none) posts) = [rn b s j2 (d + 1)] ++ [.row (slV g2 0 (kd.length + 1) c2) 36 14 (kd ++ [zeroD])] := by
              show posts 0 ++ (posts 1 ++ (posts 2 ++ (posts 3 ++ (posts 4 ++ (posts 5 ++ (posts 6 ++ [])))))) = _
              simp only [hp0, hp1, hp2, hp3, hp4, hp5, hp6, List.nil_append, List.append_nil] <;> rfl
            rw [hpp]
            refine LA.sub (σ' := [(82, .v (.g (List.map CV.d ds))), (83, aN kd.length), (85, aR (slV g2 0 (kd.length + 1) c2)), (6, aR (.map (some g45))), (5, aP b5 0), (2, aP b2 0), (0, aP b 0)]) ⟨congrArg some hx3, congrArg some hx4, congrArg some hx6, rfl, rfl, rfl, rfl, trivial⟩ ?_
            obtain ⟨hds, haj2, hj2s⟩ := hv3
            have hset : (kd ++ [zeroD]).set kd.length ds = kd ++ [ds] := by simp
            refine LA.fin (σf := [(6, aR (.map (some g45))), (5, aP b5 0), (2, aP b2 0), (0, aP b 0)]) (Ωf := [rn b s j2 (d + 1), .row (slV g2 0 (kd.length + 1) c2) 36 14 ((kd ++ [zeroD]).set kd.length ds), .row vc 9 1 (strs cl), cntM g45 ps, .blk b5 36 (V5.cs ⟨kd2, tag2, id2, tx2, at3, st3, n0, n1, n2, n3, n4, n5⟩ (.r vc) (.r (slV g2 0 (kd.length + 1) c2))), .blk b2 36 zeroC]) ?_ fun hfin => ?_
            · skip
              refine G.round (s.size - j2) _ (by omega) ⟨j2, ⟨kd2, tag2, id2, tx2, at3, st3, n0, n1, n2, n3, n4, n5⟩, vc, _, cl, _, ps, by omega, hj2s, rfl, ⟨Nat.le_trans hl1 (by omega), Nat.le_trans hl2 (by omega), by omega, by rw [hset]; simp; omega⟩, rfl, rfl⟩ (by repeat constructor)
            · skip
              refine LA.two (i := 7) (j := 9) (by kernel_rfl) rfl rfl rfl rfl ?_ ?_
              · skip
                refine L.ixX kd.length Tryz.underlying34 s36 rfl rfl rfl (Nat.lt_succ_self _) rfl ?_
                rw [Nat.zero_add]
                refine L.last (G.la ?_)
                refine LA.two (i := 8) (j := 9) (by kernel_rfl) rfl rfl rfl rfl ?_ ?_
                · skip
                  refine L.stRg (i := 1) kd.length s36 rfl rfl rfl hds (len_snoc_lt _ _) rfl ?_
                  refine L.last (G.la ?_)
                  refine LA.one (i := 9) (by kernel_rfl) rfl rfl ?_
                  refine L.fa Tryz.underlying36 rfl s34 rfl rfl ?_
                  refine L.last (G.la ?_)
                  refine LA.one (i := 10) (by kernel_rfl) rfl rfl ?_
                  refine L.sto 4 s34 rfl rfl rfl rfl rfl ?_
                  refine L.last (G.la ?_)
                  exact LA.done (by kernel_rfl) (G.sub (by repeat constructor) hfin)
                · skip
                  refine L.fa Tryz.underlying36 rfl s34 rfl rfl ?_
                  refine L.last (G.la ?_)
                  refine LA.two (i := 8) (j := 10) (by kernel_rfl) rfl rfl rfl rfl ?_ ?_
                  · skip
                    refine L.stRg (i := 1) kd.length s36 rfl rfl rfl hds (len_snoc_lt _ _) rfl ?_
                    refine L.last (G.la ?_)
                    refine LA.one (i := 10) (by kernel_rfl) rfl rfl ?_
                    refine L.sto 4 s34 rfl rfl rfl rfl rfl ?_
                    refine L.last (G.la ?_)
                    exact LA.done (by kernel_rfl) (G.sub (by repeat constructor) hfin)
                  · skip
                    refine L.sto 4 s34 rfl rfl rfl rfl rfl ?_
                    refine L.last (G.la ?_)
                    refine LA.one (i := 8) (by kernel_rfl) rfl rfl ?_
                    refine L.stRg (i := 1) kd.length s36 rfl rfl rfl hds (len_snoc_lt _ _) rfl ?_
                    refine L.last (G.la ?_)
                    exact LA.done (by kernel_rfl) (G.sub (by repeat constructor) hfin)
              · skip
                refine L.fa Tryz.underlying36 rfl s34 rfl rfl ?_
                refine L.last (G.la ?_)
                refine LA.two (i := 7) (j := 10) (by kernel_rfl) rfl rfl rfl rfl ?_ ?_
                · skip
                  refine L.ixX kd.length Tryz.underlying34 s36 rfl rfl rfl (Nat.lt_succ_self _) rfl ?_
                  rw [Nat.zero_add]
                  refine L.last (G.la ?_)
                  refine LA.two (i := 8) (j := 10) (by kernel_rfl) rfl rfl rfl rfl ?_ ?_
                  · skip
                    refine L.stRg (i := 1) kd.length s36 rfl rfl rfl hds (len_snoc_lt _ _) rfl ?_
                    refine L.last (G.la ?_)
                    refine LA.one (i := 10) (by kernel_rfl) rfl rfl ?_
                    refine L.sto 4 s34 rfl rfl rfl rfl rfl ?_
                    refine L.last (G.la ?_)
                    exact LA.done (by kernel_rfl) (G.sub (by repeat constructor) hfin)
                  · skip
                    refine L.sto 4 s34 rfl rfl rfl rfl rfl ?_
                    refine L.last (G.la ?_)
                    refine LA.one (i := 8) (by kernel_rfl) rfl rfl ?_
                    refine L.stRg (i := 1) kd.length s36 rfl rfl rfl hds (len_snoc_lt _ _) rfl ?_
                    refine L.last (G.la ?_)
                    exact LA.done (by kernel_rfl) (G.sub (by repeat constructor) hfin)
                · skip
                  refine L.sto 4 s34 rfl rfl rfl rfl rfl ?_
                  refine L.last (G.la ?_)
                  refine LA.one (i := 7) (by kernel_rfl) rfl rfl ?_
                  refine L.ixX kd.length Tryz.underlying34 s36 rfl rfl rfl (Nat.lt_succ_self _) rfl ?_
                  rw [Nat.zero_add]
                  refine L.last (G.la ?_)
                  refine LA.one (i := 8) (by kernel_rfl) rfl rfl ?_
                  refine L.stRg (i := 1) kd.length s36 rfl rfl rfl hds (len_snoc_lt _ _) rfl ?_
                  refine L.last (G.la ?_)
                  exact LA.done (by kernel_rfl) (G.sub (by repeat constructor) hfin)
          · skip
            exact absurd (h76a.symm.trans h76) (by decide)
        · skip
          refine T.region ?_
          refine L.cmp rfl rfl rfl rfl ?_
          refine L.as rfl rfl ?_
          refine L.last ?_
          refine T.go (fun _ _ h => h) ?_
          refine T.cond rfl (fun h76 => ?_) (fun h76 => ?_)
          · skip
            have halt : a < s.size := hsome (by rintro rfl; revert h76; decide)
            obtain ⟨kd2, tag2, id2, tx2, at3, st3, n0, n1, n2, n3, n4, n5⟩ := q
            refine T.rowF 1 rfl ?_
            rintro ka km rfl
            refine T.drawA 7 [(6, aR (.map (some g45))), (5, aP b5 0), (2, aP b2 0), (0, aP b 0)] ([.row vc 9 1 (strs cl), cntM g45 ps, .blk b5 36 (V5.cs ⟨kd2, tag2, id2, tx2, at3, st3, n0, n1, n2, n3, n4, n5⟩ (.r vc) (.r (.slice ka kd.length km))), .blk b2 36 zeroC]) (fun n => match n with | 3 => [rn b s a (d + 1)] | 6 => [.row (.slice ka kd.length km) 36 14 kd] | _ => []) [] (fun n x _ post => match n with
              | 0 => x = aP b5 13 ∧ post = []
              | 1 => x = aR (.slice ka kd.length km) ∧ post = []
              | 2 => x = aP b 0 ∧ post = []
              | 3 => ∃ ds j2, x = .v (.g (List.map CV.d ds)) ∧ (ds.length = 14 ∧ a < j2 ∧ j2 ≤ s.size) ∧ post = [rn b s j2 (d + 1)]
              | 4 => x = aN kd.length ∧ post = []
              | 5 => x = aL 14 [zeroD] ∧ post = []
              | 6 => ∃ g2 c2, x = aR (slV g2 0 (kd.length + 1) c2) ∧ post = [.row (slV g2 0 (kd.length + 1) c2) 36 14 (kd ++ [zeroD])]
              | _ => False) hmixed rfl rfl rfl (by repeat constructor) (List.Perm.refl _) rfl ⟨?_, ?_, ?_, ?_, ?_, ?_, ?_, trivial⟩ ?_
            · intro X posts σ' Ωf hsb hA
              refine L.fa Tryz.underlying36 rfl s34 (hsb.get rfl) rfl ?_
              exact L.last (G.finG [] ⟨rfl, rfl⟩ rfl)
            · intro X posts σ' Ωf hsb hA
              have hx0 := (hA 0 rfl).2.1
              have l79 : σ'.lookup 79 = some (aP b5 13) := Eq.trans (hA 0 rfl).1 (congrArg some hx0)
              refine L.ld 2 o34 l79 rfl rfl rfl ?_
              exact L.last (G.finG [] ⟨rfl, rfl⟩ rfl)
            · intro X posts σ' Ωf hsb hA
              refine L.mv (hsb.get rfl) rfl ?_
              exact L.last (G.finG [] ⟨rfl, rfl⟩ rfl)
            · intro X posts σ' Ωf hsb hA
              have hx2 := (hA 2 rfl).2.1
              have l81 : σ'.lookup 81 = some (aP b 0) := Eq.trans (hA 2 rfl).1 (congrArg some hx2)
              refine L.callP [] [_] _ rfl e39 (evs1t l81) rfl (ih b a (d + 1) (by omega) (by omega) (by omega) (by omega)) (fun u hu => G.pan hu) ?_
              rintro _ _ ⟨ds, j2, rfl, h1, h2, h3, rfl⟩
              exact L.last (G.finG [_] ⟨ds, j2, rfl, ⟨h1, h2, h3⟩, rfl⟩ rfl)
            · intro X posts σ' Ωf hsb hA
              have hx1 := (hA 1 rfl).2.1
              have l80 : σ'.lookup 80 = some (aR (.slice ka kd.length km)) := Eq.trans (hA 1 rfl).1 (congrArg some hx1)
              refine L.lenX Tryz.underlying34 l80 rfl ?_
              exact L.last (G.finG [] ⟨rfl, rfl⟩ rfl)
            · intro X posts σ' Ωf hsb hA
              refine L.bsN [0, 0, 0, 0, 1, 2, 2, 0, 0, 0, 0, 0, 0, 14] Tryz.underlying34 i36 rfl rfl rfl rfl rfl rfl ?_
              exact L.last (G.finG [] ⟨rfl, rfl⟩ rfl)
            · intro X posts σ' Ωf hsb hA
              have hx1 := (hA 1 rfl).2.1
              have l80 : σ'.lookup 80 = some (aR (.slice ka kd.length km)) := Eq.trans (hA 1 rfl).1 (congrArg some hx1)
              have hx5 := (hA 5 rfl).2.1
              have l84 : σ'.lookup 84 = some (aL 14 [zeroD]) := Eq.trans (hA 5 rfl).1 (congrArg some hx5)
              refine L.app 0 Tryz.underlying34 i36 rfl rfl l80 l84 rfl (by simp; omega) (by simp; omega) rfl (fun _ => rfl) fun v6 => ?_
              refine L.rowV 0 rfl (by simp) ?_
              rintro g2 c2 rfl
              rw [List.length_append]
              exact L.last (G.finG [_] ⟨g2, c2, rfl, rfl⟩ rfl)
            intro X posts hR
            obtain ⟨hx0, hp0⟩ : X 0 = aP b5 13 ∧ posts 0 = [] := hR 0 rfl
            obtain ⟨hx1, hp1⟩ : X 1 = aR (.slice ka kd.length km) ∧ posts 1 = [] := hR 1 rfl
            obtain ⟨hx2, hp2⟩ : X 2 = aP b 0 ∧ posts 2 = [] := hR 2 rfl
            obtain ⟨ds, j2, hx3, hv3, hp3⟩ : ∃ ds j2, X 3 = .v (.g (List.map CV.d ds)) ∧ (ds.length = 14 ∧ a < j2 ∧ j2 ≤ s.size) ∧ posts 3 = [rn b s j2 (d + 1)] := hR 3 rfl
            obtain ⟨hx4, hp4⟩ : X 4 = aN kd.length ∧ posts 4 = [] := hR 4 rfl
            obtain ⟨hx5, hp5⟩ : X 5 = aL 14 [zeroD] ∧ posts 5 = [] := hR 5 rfl
            obtain ⟨g2, c2, hx6, hp6⟩ : ∃ g2 c2, X 6 = aR (slV g2 0 (kd.length + 1) c2) ∧ posts 6 = [.row (slV g2 0 (kd.length + 1) c2) 36 14 (kd ++ [zeroD])] := hR 6 rfl
            have hpp : (List.range 7).flatMap (leftC 7 (fun i => ([] : List (Option Nat)).getD i none) posts) = [rn b s j2 (d + 1)] ++ [.row (slV g2 0 (kd.length + 1) c2) 36 14 (kd ++ [zeroD])] := by
              show posts 0 ++ (posts 1 ++ (posts 2 ++ (posts 3 ++ (posts 4 ++ (posts 5 ++ (posts 6 ++ [])))))) = _
              simp only [hp0, hp1, hp2, hp3, hp4, hp5, hp6, List.nil_append, List.append_nil] <;> rfl
            rw [hpp]
            refine LA.sub (σ' := [(82, .v (.g (List.map CV.d ds))), (83, aN kd.length), (85, aR (slV g2 0 (kd.length + 1) c2)), (6, aR (.map (some g45))), (5, aP b5 0), (2, aP b2 0), (0, aP b 0)]) ⟨congrArg some hx3, congrArg some hx4, congrArg some hx6, rfl, rfl, rfl, rfl, trivial⟩ ?_
            obtain ⟨hds, haj2, hj2s⟩ := hv3
            have hset : (kd ++ [zeroD]).set kd.length ds = kd ++ [ds] := by simp
            refine LA.fin (σf := [(6, aR (.map (some g45))), (5, aP b5 0), (2, aP b2 0), (0, aP b 0)]) (Ωf := [rn b s j2 (d + 1), .row (slV g2 0 (kd.length + 1) c2) 36 14 ((kd ++ [zeroD]).set kd.length ds), .row vc 9 1 (strs cl), cntM g45 ps, .blk b5 36 (V5.cs ⟨kd2, tag2, id2, tx2, at3, st3, n0, n1, n2, n3, n4, n5⟩ (.r vc) (.r (slV g2 0 (kd.length + 1) c2))), .blk b2 36 zeroC]) ?_ fun hfin => ?_
            · skip
              refine G.round (s.size - j2) _ (by omega) ⟨j2, ⟨kd2, tag2, id2, tx2, at3, st3, n0, n1, n2, n3, n4, n5⟩, vc, _, cl, _, ps, by omega, hj2s, rfl, ⟨Nat.le_trans hl1 (by omega), Nat.le_trans hl2 (by omega), by omega, by rw [hset]; simp; omega⟩, rfl, rfl⟩ (by repeat constructor)
            · skip
              refine LA.two (i := 7) (j := 9) (by kernel_rfl) rfl rfl rfl rfl ?_ ?_
              · skip
                refine L.ixX kd.length Tryz.underlying34 s36 rfl rfl rfl (Nat.lt_succ_self _) rfl ?_
                rw [Nat.zero_add]
                refine L.last (G.la ?_)
                refine LA.two (i := 8) (j := 9) (by kernel_rfl) rfl rfl rfl rfl ?_ ?_
                · skip
                  refine L.stRg (i := 1) kd.length s36 rfl rfl rfl hds (len_snoc_lt _ _) rfl ?_
                  refine L.last (G.la ?_)
                  refine LA.one (i := 9) (by kernel_rfl) rfl rfl ?_
                  refine L.fa Tryz.underlying36 rfl s34 rfl rfl ?_
                  refine L.last (G.la ?_)
                  refine LA.one (i := 10) (by kernel_rfl) rfl rfl ?_
                  refine L.sto 4 s34 rfl rfl rfl rfl rfl ?_
                  refine L.last (G.la ?_)
                  exact LA.done (by kernel_rfl) (G.sub (by repeat constructor) hfin)
                · skip
                  refine L.fa Tryz.underlying36 rfl s34 rfl rfl ?_
                  refine L.last (G.la ?_)
                  refine LA.two (i := 8) (j := 10) (by kernel_rfl) rfl rfl rfl rfl ?_ ?_
                  · skip
                    refine L.stRg (i := 1) kd.length s36 rfl rfl rfl hds (len_snoc_lt _ _) rfl ?_
                    refine L.last (G.la ?_)
                    refine LA.one (i := 10) (by kernel_rfl) rfl rfl ?_
                    refine L.sto 4 s34 rfl rfl rfl rfl rfl ?_
                    refine L.last (G.la ?_)
                    exact LA.done (by kernel_rfl) (G.sub (by repeat constructor) hfin)
                  · skip
                    refine L.sto 4 s34 rfl rfl rfl rfl rfl ?_
                    refine L.last (G.la ?_)
                    refine LA.one (i := 8) (by kernel_rfl) rfl rfl ?_
                    refine L.stRg (i := 1) kd.length s36 rfl rfl rfl hds (len_snoc_lt _ _) rfl ?_
                    refine L.last (G.la ?_)
                    exact LA.done (by kernel_rfl) (G.sub (by repeat constructor) hfin)
              · skip
                refine L.fa Tryz.underlying36 rfl s34 rfl rfl ?_
                refine L.last (G.la ?_)
                refine LA.two (i := 7) (j := 10) (by kernel_rfl) rfl rfl rfl rfl ?_ ?_
                · skip
                  refine L.ixX kd.length Tryz.underlying34 s36 rfl rfl rfl (Nat.lt_succ_self _) rfl ?_
                  rw [Nat.zero_add]
                  refine L.last (G.la ?_)
                  refine LA.two (i := 8) (j := 10) (by kernel_rfl) rfl rfl rfl rfl ?_ ?_
                  · skip
                    refine L.stRg (i := 1) kd.length s36 rfl rfl rfl hds (len_snoc_lt _ _) rfl ?_
                    refine L.last (G.la ?_)
                    refine LA.one (i := 10) (by kernel_rfl) rfl rfl ?_
                    refine L.sto 4 s34 rfl rfl rfl rfl rfl ?_
                    refine L.last (G.la ?_)
                    exact LA.done (by kernel_rfl) (G.sub (by repeat constructor) hfin)
                  · skip
                    refine L.sto 4 s34 rfl rfl rfl rfl rfl ?_
                    refine L.last (G.la ?_)
                    refine LA.one (i := 8) (by kernel_rfl) rfl rfl ?_
                    refine L.stRg (i := 1) kd.length s36 rfl rfl rfl hds (len_snoc_lt _ _) rfl ?_
                    refine L.last (G.la ?_)
                    exact LA.done (by kernel_rfl) (G.sub (by repeat constructor) hfin)
                · skip
                  refine L.sto 4 s34 rfl rfl rfl rfl rfl ?_
                  refine L.last (G.la ?_)
                  refine LA.one (i := 7) (by kernel_rfl) rfl rfl ?_
                  refine L.ixX kd.length Tryz.underlying34 s36 rfl rfl rfl (Nat.lt_succ_self _) rfl ?_
                  rw [Nat.zero_add]
                  refine L.last (G.la ?_)
                  refine LA.one (i := 8) (by kernel_rfl) rfl rfl ?_
                  refine L.stRg (i := 1) kd.length s36 rfl rfl rfl hds (len_snoc_lt _ _) rfl ?_
                  refine L.last (G.la ?_)
                  exact LA.done (by kernel_rfl) (G.sub (by repeat constructor) hfin)
          · skip
            refine T.rg ?_
            refine L.mv rfl rfl ?_
            refine L.callP [] [_] [_, _, _, _, _] rfl e93 rfl rfl (f93 b s a (d + 1) (by omega) (by omega)) (fun u hu => G.pan hu) ?_
            rintro _ _ ⟨t3, a3, j3, rfl, ht3, hts3, haj3, hj3s, rfl⟩
            refine L.mv rfl rfl ?_
            refine L.ex rfl rfl rfl ?_
            refine L.ex rfl rfl rfl ?_
            refine L.as rfl rfl ?_
            refine L.as rfl rfl ?_
            refine L.nil ?_
            refine T.rg ?_
            refine L.mv rfl rfl ?_
            refine L.mv rfl rfl ?_
            refine L.callO [_, _] [_, _, _] [_] rfl e94 rfl rfl (f94 b5 t3 ht3 (by omega) g45 ps q (by omega) (by omega) vc cl (by omega) (.r vk)) ?_
            rintro _ _ ⟨bb, q2, vc2, cl2, ps2, rfl, rfl, hq1, hq2, hq3⟩
            refine L.not rfl rfl ?_
            refine L.nil ?_
            refine T.cond rfl (fun h56 => ?_) (fun h56 => ?_)
            · skip
              refine T.region ?_
              refine L.mv rfl rfl ?_
              refine L.callP [] [] [_, _, _, _, _, _] rfl e41 rfl rfl (f41 _ _) (fun u hu => G.pan ⟨_, _, hu⟩) ?_
              exact fun _ _ h => h.elim
            · skip
              refine T.skip ?_
              refine G.round (s.size - j3) _ (by omega) ⟨j3, q2, vc2, vk, cl2, kd, ps2, by omega, hj3s, rfl, ⟨by omega, by omega, by omega, by omega⟩, rfl, rfl⟩ (by repeat constructor)

set_option maxHeartbeats 8000000 in
theorem f39s (s : ByteArray) (hs : s.size ≤ 800) (N : Nat) (ih : ∀ (b k : Nat) (d : Int), k ≤ s.size → s.size - k < N → 0 ≤ d → d ≤ 40 → FcP Tryz.prog 39 [P_ b 0] [rn b s k d] (VR b s k d) Wr) (b k : Nat) (d : Int) (hk : k ≤ s.size) (hN : s.size - k < N + 1) (hd0 : 0 ≤ d) (hd4 : d ≤ 40) : FcP Tryz.prog 39 [P_ b 0] [rn b s k d] (VR b s k d) (Wr) := by
  refine FcP.enter Tryz.func39 rfl Tryz.ntmps39 rfl fun X w => ?_
  refine T.rg ?_
  refine L.alloc z36 rfl rfl fun b2 => ?_
  refine L.nil ?_
  refine T.of_seq ?_
  refine T.rg ?_
  refine L.mv rfl rfl ?_
  refine L.callO [_] [_] [] rfl e68 rfl rfl (f68 b s k d hk (by omega)) ?_
  rintro _ _ ⟨rfl, rfl⟩
  obtain ⟨a, ha⟩ : ∃ a, blanksN s k = a := ⟨_, rfl⟩
  have hja : k ≤ a := ha ▸ blanksN_ge s k
  have has : a ≤ s.size := ha ▸ blanksN_le hk
  rw [ha]
  clear ha
  obtain ⟨nb, hnb⟩ : ∃ nb, nextB s a = nb := ⟨_, rfl⟩
  have hsome : nb ≠ 0 → a < s.size := fun h => nextB_some (by rw [hnb]; exact h)
  rw [hnb]
  clear hnb
  refine L.nil ?_
  refine T.block ?_
  refine T.rg ?_
  refine L.cmp rfl rfl rfl rfl ?_
  refine L.as rfl rfl ?_
  refine L.nil ?_
  refine T.cond rfl (fun h5 => ?_) (fun h5 => ?_)
  · skip
    have halt : a < s.size := hsome (by rintro rfl; revert h5; decide)
    refine T.rg ?_
    refine L.mv rfl rfl ?_
    refine L.callP [_] [_] [] rfl e69 rfl rfl (f69 b s a d halt (by omega)) (fun u hu => G.pan hu) ?_
    rintro _ _ ⟨j, ⟨ds, hds, rfl⟩, haj, hjs, rfl⟩
    refine L.stog 0 s36 rfl rfl rfl rfl (by rw [List.length_map, hds]; rfl) rfl ?_
    refine L.nil ?_
    refine T.ret ?_
    refine G.toP ?_
    exact G.retW (fun w hs => drop_at (i := 0) rfl rfl w hs) (resC (i := 0) Tryz.results39 rfl a36 s36 rfl (by rw [List.length_map, hds]; rfl)) ⟨ds, j, rfl, hds, by omega, hjs, rfl⟩
  · skip
    refine T.rg ?_
    refine L.cmp rfl rfl rfl rfl ?_
    refine L.as rfl rfl ?_
    refine L.nil ?_
    refine T.cond rfl (fun h9 => ?_) (fun h9 => ?_)
    · skip
      have halt : a < s.size := hsome (by rintro rfl; revert h9; decide)
      refine T.rg ?_
      refine L.mv rfl rfl ?_
      refine L.callP [_] [_] [] rfl e70 rfl rfl (f70 s hs N ih b a d halt (by omega) hd0 hd4) (fun u hu => G.pan hu) ?_
      rintro _ _ ⟨ds, j, rfl, hds, haj, hjs, rfl⟩
      refine L.stog 0 s36 rfl rfl rfl rfl (by rw [List.length_map, hds]; rfl) rfl ?_
      refine L.nil ?_
      refine T.ret ?_
      refine G.toP ?_
      exact G.retW (fun w hs => drop_at (i := 0) rfl rfl w hs) (resC (i := 0) Tryz.results39 rfl a36 s36 rfl (by rw [List.length_map, hds]; rfl)) ⟨ds, j, rfl, hds, by omega, hjs, rfl⟩
    · skip
      refine T.skip ?_
      refine T.go (fun _ _ h => h) ?_
      refine T.rg ?_
      refine L.mv rfl rfl ?_
      refine L.nilck rfl rfl ?_
      refine L.fa Tryz.underlying90 rfl s3 rfl rfl ?_
      refine L.ld 1 o3 rfl rfl rfl rfl ?_
      refine L.callP [] [] [_, _] rfl e41 rfl rfl (f41 _ _) (fun u hu => G.pan ⟨_, _, hu⟩) ?_
      exact fun _ _ h => h.elim

theorem f39 (s : ByteArray) (hs : s.size ≤ 800) : ∀ (N : Nat) (b k : Nat) (d : Int), k ≤ s.size → s.size - k < N → 0 ≤ d → d ≤ 40 → FcP Tryz.prog 39 [P_ b 0] [rn b s k d] (VR b s k d) Wr
  | 0, _, _, _, _, h, _, _ => absurd h (Nat.not_lt_zero _)
  | N + 1, b, k, d, hk, h, h0, h4 => f39s s hs N (f39 s hs N) b k d hk h h0 h4
end Go.Proofs.YtimimkdgofiloaaGreatDoor
