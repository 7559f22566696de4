/- The program's reader of selectors: parts, selectors. Printed by gen.py. -/
import Derived.Test.YtimimkdgofiloaaGreatDoorS5
import Derived.Test.YtimimkdgofiloaaGreatDoorQk
namespace Go.Proofs.YtimimkdgofiloaaGreatDoor
open Go Go.Q
abbrev zero77 : List CV := [.d (.s ⟨#[]⟩), .r (.slice none 0 0), .r (.slice none 0 0), .d (.b false)]
/-- Where a part is being read. -/
def partInv (b : Nat) (s : ByteArray) (k b2 b3 : Nat) : Nat → Env → List Ob → Prop := fun m σ Ω => ∃ (p : SPart) (j f : Nat) (v1 v2 : Value) (bad sm : Bool),
  j ≤ s.size ∧ p.child = false ∧ p.classes.length ≤ j ∧ p.pairs.length ≤ j ∧ m = (if bad = true then 0 else f) ∧ s.size - j < f ∧
  partS s k = (if bad = true then none else if sm = true ∨ nextB s j = 46 ∨ nextB s j = 91 then moreS s f j p else none) ∧
  partP s k = (if bad = true then j else if sm = true ∨ nextB s j = 46 ∨ nextB s j = 91 then moreP s f j else j) ∧
  σ = [(4, aB sm), (3, aP b3 0), (2, aP b2 0), (0, aP b 0)] ∧
  Ω = [rd b s j bad, .row v2 124 3 (qps p.pairs), .row v1 9 1 (strs p.classes), .blk b3 98 [.d (.s p.tag), .r v1, .r v2, .d (.b false)], .blk b2 98 zero77]
set_option maxHeartbeats 4000000 in
theorem f43 (b : Nat) (s : ByteArray) (k : Nat) (hk : k ≤ s.size) (hs : s.size ≤ 1000) : Fc Tryz.prog 43 [P_ b 0] [rd b s k false] (fun x Ω => ∃ (p : SPart) (j : Nat) (bad : Bool), x = .v (.g p.cs) ∧ p.child = false ∧ j ≤ s.size ∧ Ω = [rd b s j bad] ∧ p.classes.length ≤ j ∧ p.pairs.length ≤ j ∧ partS s k = (if bad = true then none else some (p, j)) ∧ (bad = true → j = partP s k)) := by
  refine Fc.enter Tryz.func43 rfl Tryz.ntmps43 rfl fun X w => ?_
  refine T.rg ?_
  refine L.alloc z98 rfl rfl fun b2 => ?_
  refine L.nil ?_
  refine T.rg ?_
  refine L.alloc z98 rfl rfl fun b3 => ?_
  refine L.nil ?_
  refine T.rg ?_
  refine L.as rfl rfl ?_
  refine L.nil ?_
  refine T.cut (fun σ Ω => ∃ m, partInv b s k b2 b3 m σ Ω) ?_ ?_
  · rintro σ Ω ⟨m0, p0, j0, f0, u1, u2, bad0, sm0, g1, g2, g3, g4, g5, g6, g7, g8, rfl, rfl⟩
    refine T.of_seq ?_
    refine T.block ?_
    subst g5
    refine T.loop (partInv b s k b2 b3) (_) _ (⟨p0, j0, f0, u1, u2, bad0, sm0, g1, g2, g3, g4, rfl, g6, g7, g8, rfl, rfl⟩) (by repeat constructor) ?_
    rintro m σ Ω ⟨p, j, f, v1, v2, bad, sm, hj, hpc, hlc, hlp, rfl, hf, hS, hPl, rfl, rfl⟩
    refine T.of_seq ?_
    refine T.rg ?_
    refine L.mv rfl rfl ?_
    refine L.nilck rfl rfl ?_
    refine L.fa Tryz.underlying95 rfl s4 rfl rfl ?_
    rcases bad with _ | _
    · skip
      obtain ⟨g, rfl⟩ : ∃ g, f = g + 1 := ⟨f - 1, by omega⟩
      refine L.ld 0 o4 rfl rfl rfl rfl ?_
      refine L.not rfl rfl ?_
      refine L.nil ?_
      refine T.condT rfl ?_
      refine T.skip ?_
      refine T.go (fun _ _ h => h) ?_
      refine T.block ?_
      refine T.of_seq ?_
      refine T.rg ?_
      refine L.mv rfl rfl ?_
      refine L.callO [] [_] [_, _, _, _] rfl e44 rfl rfl (f44 b s j false hj hs) ?_
      rintro _ _ ⟨rfl, rfl⟩
      refine L.nil ?_
      refine T.block ?_
      refine T.rg ?_
      refine L.cmp rfl rfl rfl rfl ?_
      refine L.as rfl rfl ?_
      refine L.nil ?_
      refine T.cond rfl (fun h39 => ?_) (fun h39 => ?_)
      · skip
        have h46 : nextB s j = 46 := b8_eq (d := 46) h39
        have hlt := nextB_lt (s := s) (k := j) (by rw [h46]; decide)
        have htl := tokLen_le stopB s (j + 1)
        have hS2 : partS s k = match nameS s (j + 1) with | none => none | some (n, b) => moreS s g b { p with classes := p.classes ++ [n] } := by rw [hS, if_neg (by decide), if_pos (.inr (.inl h46)), moreS, if_pos h46]; rfl
        have hP2 : partP s k = match nameS s (j + 1) with | none => j + 1 | some (_, b) => moreP s g b := by rw [hPl, if_neg (by decide), if_pos (.inr (.inl h46)), moreP, if_pos h46]; rfl
        refine T.rg ?_
        refine L.mv rfl rfl ?_
        refine L.nilck rfl rfl ?_
        refine L.fa Tryz.underlying95 rfl s3 rfl rfl ?_
        refine L.ld 0 o3 rfl rfl rfl rfl ?_
        refine L.ar ((j + 1 : Nat) : Int) rfl rfl rfl (by omega) rfl ?_
        refine L.nilck rfl rfl ?_
        refine L.fa Tryz.underlying95 rfl s3 rfl rfl ?_
        refine L.sto 0 s3 rfl rfl rfl rfl rfl ?_
        refine L.nil ?_
        refine T.drawP 5 [(3, aP b3 0), (2, aP b2 0), (0, aP b 0)] [aP b3 1, aR v1, aP b 0, aS (if nameB (tok stopB s (j + 1)) = true then tok stopB s (j + 1) else ByteArray.empty), aL 1 [[D.s (if nameB (tok stopB s (j + 1)) = true then tok stopB s (j + 1) else ByteArray.empty)]]] [([], []), ([], []), ([], []), ([rd b s (j + 1) false], [if nameB (tok stopB s (j + 1)) = true then rd b s (j + 1 + tokLen stopB s (j + 1)) false else rd b s (j + 1) true]), ([], [])] [.row v2 124 3 (qps p.pairs), .row v1 9 1 (strs p.classes), .blk b3 98 [.d (.s p.tag), .r v1, .r v2, .d (.b false)], .blk b2 98 zero77] hmixed rfl rfl rfl rfl rfl (by repeat constructor) (List.Perm.refl _) ⟨?_, ?_, ?_, ?_, ?_, trivial⟩ ?_
        · intro σ' Ωf hsb hA
          refine L.fa Tryz.underlying98 rfl s27 (hsb.get rfl) rfl ?_
          exact L.last (G.finP rfl rfl)
        · intro σ' Ωf hsb hA
          refine L.ld 2 o27 (hA 0 rfl) rfl rfl rfl ?_
          exact L.last (G.finP rfl rfl)
        · intro σ' Ωf hsb hA
          refine L.mv (hsb.get rfl) rfl ?_
          exact L.last (G.finP rfl rfl)
        · intro σ' Ωf hsb hA
          refine L.callO [] [rd b s (j + 1) false] _ rfl e71 (evs3 (hA 2 rfl) rfl rfl) rfl (f71n b s (j + 1) (by omega) hs) ?_
          rintro _ _ ⟨rfl, rfl⟩
          exact L.last (G.finP rfl rfl)
        · intro σ' Ωf hsb hA
          refine L.bsD rfl Tryz.underlying27 i9 rfl rfl (evp1 (hA 3 rfl)) rfl rfl ?_
          exact L.last (G.finP rfl rfl)
        refine L.app 2 Tryz.underlying27 i9 rfl rfl rfl rfl rfl (by simp; omega) (by simp; omega) rfl (fun _ => rfl) fun v53 => ?_
        refine L.fa Tryz.underlying98 rfl s27 rfl rfl ?_
        refine L.sto 3 s27 rfl rfl rfl rfl rfl ?_
        refine L.last ?_
        refine T.go (fun _ _ h => h) ?_
        refine T.region ?_
        refine L.as rfl rfl ?_
        refine L.last ?_
        by_cases hn : nameB (tok stopB s (j + 1)) = true
        · simp only [hn, if_true]
          refine G.round g _ (by simp) ⟨{ p with classes := p.classes ++ [tok stopB s (j + 1)] }, j + 1 + tokLen stopB s (j + 1), g, _, v2, false, true, by omega, hpc, by simp; omega, by show p.pairs.length ≤ _; omega, rfl, by omega, by rw [hS2, nameS, if_pos hn]; simp, by rw [hP2, nameS, if_pos hn]; simp, rfl, by rw [strs_snoc]⟩ (by repeat constructor)
        · rw [if_neg hn, if_neg hn]
          refine G.round 0 _ (by simp) ⟨{ p with classes := p.classes ++ [ByteArray.empty] }, j + 1, g, _, v2, true, true, by omega, hpc, by simp; omega, by show p.pairs.length ≤ _; omega, rfl, by omega, by rw [hS2, nameS, if_neg hn]; simp, by rw [hP2, nameS, if_neg hn]; simp, rfl, by rw [strs_snoc]⟩ (by repeat constructor)
      · skip
        have h46 : ¬ nextB s j = 46 := b8_ne (d := 46) h39
        refine T.rg ?_
        refine L.cmp rfl rfl rfl rfl ?_
        refine L.as rfl rfl ?_
        refine L.nil ?_
        refine T.cond rfl (fun h55 => ?_) (fun h55 => ?_)
        · skip
          have h91 : nextB s j = 91 := b8_eq (d := 91) h55
          have hlt := nextB_lt (s := s) (k := j) (by rw [h91]; decide)
          have hS3 : partS s k = match pairS s (j + 1) with | none => none | some (q, b) => moreS s g b { p with pairs := p.pairs ++ [q] } := by rw [hS, if_neg (by decide), if_pos (.inr (.inr h91)), moreS, if_neg h46, if_pos h91]; rfl
          have hP3 : partP s k = if (pairX s (j + 1)).2.2 = true then (pairX s (j + 1)).2.1 else moreP s g (pairX s (j + 1)).2.1 := by rw [hPl, if_neg (by decide), if_pos (.inr (.inr h91)), moreP, if_neg h46, if_pos h91]
          refine T.rg ?_
          refine L.mv rfl rfl ?_
          refine L.nilck rfl rfl ?_
          refine L.fa Tryz.underlying95 rfl s3 rfl rfl ?_
          refine L.ld 0 o3 rfl rfl rfl rfl ?_
          refine L.ar ((j + 1 : Nat) : Int) rfl rfl rfl (by omega) rfl ?_
          refine L.nilck rfl rfl ?_
          refine L.fa Tryz.underlying95 rfl s3 rfl rfl ?_
          refine L.sto 0 s3 rfl rfl rfl rfl rfl ?_
          refine L.nil ?_
          refine T.drawP 5 [(3, aP b3 0), (2, aP b2 0), (0, aP b 0)] [aP b3 2, aR v2, aP b 0, .v (.g [.d (.s (pairX s (j + 1)).1.1), .d (.s (pairX s (j + 1)).1.2.1), .d (.b (pairX s (j + 1)).1.2.2)]), aL 3 [[D.s (pairX s (j + 1)).1.1, D.s (pairX s (j + 1)).1.2.1, D.b (pairX s (j + 1)).1.2.2]]] [([], []), ([], []), ([], []), ([rd b s (j + 1) false], [rd b s (pairX s (j + 1)).2.1 (pairX s (j + 1)).2.2]), ([], [])] [.row v2 124 3 (qps p.pairs), .row v1 9 1 (strs p.classes), .blk b3 98 [.d (.s p.tag), .r v1, .r v2, .d (.b false)], .blk b2 98 zero77] hmixed rfl rfl rfl rfl rfl (by repeat constructor) (List.Perm.refl _) ⟨?_, ?_, ?_, ?_, ?_, trivial⟩ ?_
          · intro σ' Ωf hsb hA
            refine L.fa Tryz.underlying98 rfl s96 (hsb.get rfl) rfl ?_
            exact L.last (G.finP rfl rfl)
          · intro σ' Ωf hsb hA
            refine L.ld 2 o96 (hA 0 rfl) rfl rfl rfl ?_
            exact L.last (G.finP rfl rfl)
          · intro σ' Ωf hsb hA
            refine L.mv (hsb.get rfl) rfl ?_
            exact L.last (G.finP rfl rfl)
          · intro σ' Ωf hsb hA
            refine L.callO [] [rd b s (j + 1) false] _ rfl e73 (evs1 (hA 2 rfl)) rfl (f73 b s (j + 1) (by omega) hs) ?_
            rintro _ _ ⟨rfl, rfl⟩
            exact L.last (G.finP rfl rfl)
          · intro σ' Ωf hsb hA
            refine L.bsD rfl Tryz.underlying96 i124 rfl rfl (evp1 (hA 3 rfl)) rfl rfl ?_
            exact L.last (G.finP rfl rfl)
          refine L.app 1 Tryz.underlying96 i124 rfl rfl rfl rfl rfl (by simp; omega) (by simp; omega) rfl (fun _ => rfl) fun v69 => ?_
          refine L.fa Tryz.underlying98 rfl s96 rfl rfl ?_
          refine L.sto 3 s96 rfl rfl rfl rfl rfl ?_
          refine L.last ?_
          refine T.go (fun _ _ h => h) ?_
          refine T.region ?_
          refine L.as rfl rfl ?_
          refine L.last ?_
          have hpl := pairX_le (s := s) (k := j + 1) (by omega)
          refine G.round (if (pairX s (j + 1)).2.2 = true then 0 else g) _ (by split <;> simp) ⟨{ p with pairs := p.pairs ++ [(pairX s (j + 1)).1] }, (pairX s (j + 1)).2.1, g, v1, _, (pairX s (j + 1)).2.2, true, hpl.2, hpc, by show p.classes.length ≤ _; omega, by simp; omega, rfl, by omega, ?_, ?_, rfl, by rw [qps_snoc]⟩ (by repeat constructor)
          · rw [hS3, pairX_S]
            by_cases hb : (pairX s (j + 1)).2.2 = true
            · simp [hb]
            · simp [hb]
          · rw [hP3]; simp
        · skip
          have h91 : ¬ nextB s j = 91 := b8_ne (d := 91) h55
          refine T.rg ?_
          refine L.mv rfl rfl ?_
          refine L.mv rfl rfl ?_
          refine L.not rfl rfl ?_
          refine L.nilck rfl rfl ?_
          refine L.fa Tryz.underlying95 rfl s4 rfl rfl ?_
          refine L.sto 0 s4 rfl rfl rfl rfl rfl ?_
          refine L.nil ?_
          refine T.rg ?_
          refine L.ldg 3 a98 s98 rfl rfl rfl rfl rfl ?_
          refine L.stog 4 s98 rfl rfl rfl rfl rfl rfl ?_
          refine L.nil ?_
          refine T.ret ?_
          refine G.conv (drop_at (i := 3) rfl rfl) ?_
          refine G.conv (cell_pub (j := 3) (o := 1) (i := 2) (sz := 1) (es := strs p.classes) rfl rfl rfl rfl rfl rfl) ?_
          refine G.conv (cell_pub (j := 2) (o := 2) (i := 1) (sz := 3) (es := qps p.pairs) rfl rfl rfl rfl rfl rfl) ?_
          exact G.retW (drop_at (i := 1) rfl rfl) (resC (i := 1) Tryz.results43 rfl a98 s98 rfl rfl) ⟨p, j, !sm, by rw [SPart.cs, hpc]; rfl, hpc, hj, rfl, hlc, hlp, by rw [hS]; cases sm <;> simp [h46, h91, moreS], fun hb => by rw [hPl]; cases sm <;> simp [h46, h91] at hb ⊢⟩
    · skip
      refine L.ld 0 o4 rfl rfl rfl rfl ?_
      refine L.not rfl rfl ?_
      refine L.nil ?_
      refine T.condF rfl ?_
      refine T.exit ?_
      refine T.go (fun _ _ h => h) ?_
      refine T.rg ?_
      refine L.ldg 3 a98 s98 rfl rfl rfl rfl rfl ?_
      refine L.stog 4 s98 rfl rfl rfl rfl rfl rfl ?_
      refine L.nil ?_
      refine T.ret ?_
      refine G.conv (drop_at (i := 3) rfl rfl) ?_
      refine G.conv (cell_pub (j := 3) (o := 1) (i := 2) (sz := 1) (es := strs p.classes) rfl rfl rfl rfl rfl rfl) ?_
      refine G.conv (cell_pub (j := 2) (o := 2) (i := 1) (sz := 3) (es := qps p.pairs) rfl rfl rfl rfl rfl rfl) ?_
      exact G.retW (drop_at (i := 1) rfl rfl) (resC (i := 1) Tryz.results43 rfl a98 s98 rfl rfl) ⟨p, j, true, by rw [SPart.cs, hpc]; rfl, hpc, hj, rfl, hlc, hlp, hS, fun _ => hPl.symm⟩
  · skip
    refine T.rg ?_
    refine L.mv rfl rfl ?_
    refine L.callO [_, _] [_] [] rfl e44 rfl rfl (f44 b s k false hk hs) ?_
    rintro _ _ ⟨rfl, rfl⟩
    refine L.as rfl rfl ?_
    refine L.nil ?_
    refine T.rg ?_
    refine L.mv rfl rfl ?_
    refine L.nil ?_
    refine T.block ?_
    refine T.rg ?_
    refine L.cmp rfl rfl rfl rfl ?_
    refine L.as rfl rfl ?_
    refine L.nil ?_
    refine T.cond rfl (fun h12 => ?_) (fun h12 => ?_)
    · skip
      have h42 : nextB s k = 42 := b8_eq (d := 42) h12
      have hlt := nextB_lt (s := s) (k := k) (by rw [h42]; decide)
      refine T.rg ?_
      refine L.mv rfl rfl ?_
      refine L.nilck rfl rfl ?_
      refine L.fa Tryz.underlying95 rfl s3 rfl rfl ?_
      refine L.ld 2 o3 rfl rfl rfl rfl ?_
      refine L.ar ((k + 1 : Nat) : Int) rfl rfl rfl (by omega) rfl ?_
      refine L.nilck rfl rfl ?_
      refine L.fa Tryz.underlying95 rfl s3 rfl rfl ?_
      refine L.sto 2 s3 rfl rfl rfl rfl rfl ?_
      refine L.nil ?_
      refine T.region ?_
      refine L.fa Tryz.underlying98 rfl s9 rfl rfl ?_
      refine L.sto 0 s9 rfl rfl rfl rfl rfl ?_
      refine L.as rfl rfl ?_
      refine L.last ?_
      refine G.conv (fun w hs => hs.perm (Ω' := [_, _, _]) (List.perm_append_comm (l₁ := [_, _]) (l₂ := [_]))) ?_
      refine G.conv (nil_row 9 1) ?_
      refine G.conv (nil_row 124 3) ?_
      refine G.conv (fun w hs => hs.perm (Ω' := [_, _, _, _, _]) ((List.perm_append_comm (l₁ := [_, _]) (l₂ := [_, _, _])).trans (List.Perm.append_left [_] (List.perm_append_comm (l₁ := [_, _]) (l₂ := [_, _]))))) ?_
      exact G.cut [(4, aB true), (3, aP b3 0), (2, aP b2 0), (0, aP b 0)] ⟨_, ⟨starB, [], [], false⟩, k + 1, s.size + 1, _, _, false, true, by omega, rfl, Nat.zero_le _, Nat.zero_le _, rfl, by omega, by simp [partS, h42, noPart], by simp [partP, h42, noPart], rfl, rfl⟩ (by repeat constructor)
    · skip
      have h42 : ¬ nextB s k = 42 := b8_ne (d := 42) h12
      refine T.of_seq ?_
      refine T.rg ?_
      refine L.cmp rfl rfl rfl rfl ?_
      refine L.as rfl rfl ?_
      refine L.nil ?_
      refine T.cond rfl (fun h22 => ?_) (fun h22 => ?_)
      · skip
        have h46 : nextB s k = 46 := b8_eq (d := 46) h22
        refine T.skip ?_
        refine T.go (fun _ _ h => h) ?_
        refine T.cond rfl (fun h22 => ?_) (fun h22 => ?_)
        · skip
          refine T.skip ?_
          refine G.conv (fun w hs => hs.perm (Ω' := [_, _, _]) (List.perm_append_comm (l₁ := [_, _]) (l₂ := [_]))) ?_
          refine G.conv (nil_row 9 1) ?_
          refine G.conv (nil_row 124 3) ?_
          refine G.conv (fun w hs => hs.perm (Ω' := [_, _, _, _, _]) ((List.perm_append_comm (l₁ := [_, _]) (l₂ := [_, _, _])).trans (List.Perm.append_left [_] (List.perm_append_comm (l₁ := [_, _]) (l₂ := [_, _]))))) ?_
          exact G.cut [(4, aB false), (3, aP b3 0), (2, aP b2 0), (0, aP b 0)] ⟨_, noPart, k, s.size + 1, _, _, false, false, hk, rfl, Nat.zero_le _, Nat.zero_le _, rfl, by omega, by simp [partS, h46], by simp [partP, h46], rfl, rfl⟩ (by repeat constructor)
        · skip
          exact absurd h46 (b8_ne (d := 46) h22)
      · skip
        have h46 : ¬ nextB s k = 46 := b8_ne (d := 46) h22
        refine T.rg ?_
        refine L.cmp rfl rfl rfl rfl ?_
        refine L.as rfl rfl ?_
        refine L.nil ?_
        refine T.cond rfl (fun h22 => ?_) (fun h22 => ?_)
        · skip
          have h91 : nextB s k = 91 := b8_eq (d := 91) h22
          refine T.skip ?_
          refine T.go (fun _ _ h => h) ?_
          refine T.cond rfl (fun h22 => ?_) (fun h22 => ?_)
          · skip
            refine T.skip ?_
            refine G.conv (fun w hs => hs.perm (Ω' := [_, _, _]) (List.perm_append_comm (l₁ := [_, _]) (l₂ := [_]))) ?_
            refine G.conv (nil_row 9 1) ?_
            refine G.conv (nil_row 124 3) ?_
            refine G.conv (fun w hs => hs.perm (Ω' := [_, _, _, _, _]) ((List.perm_append_comm (l₁ := [_, _]) (l₂ := [_, _, _])).trans (List.Perm.append_left [_] (List.perm_append_comm (l₁ := [_, _]) (l₂ := [_, _]))))) ?_
            exact G.cut [(4, aB false), (3, aP b3 0), (2, aP b2 0), (0, aP b 0)] ⟨_, noPart, k, s.size + 1, _, _, false, false, hk, rfl, Nat.zero_le _, Nat.zero_le _, rfl, by omega, by simp [partS, h91], by simp [partP, h91], rfl, rfl⟩ (by repeat constructor)
          · skip
            exact absurd h91 (b8_ne (d := 91) h22)
        · skip
          have h91 : ¬ nextB s k = 91 := b8_ne (d := 91) h22
          refine T.region ?_
          refine L.cmp rfl rfl rfl rfl ?_
          refine L.as rfl rfl ?_
          refine L.last ?_
          refine T.go (fun _ _ h => h) ?_
          refine T.cond rfl (fun h22 => ?_) (fun h22 => ?_)
          · skip
            have h0 : nextB s k = 0 := b8_eq (d := 0) h22
            refine T.skip ?_
            refine G.conv (fun w hs => hs.perm (Ω' := [_, _, _]) (List.perm_append_comm (l₁ := [_, _]) (l₂ := [_]))) ?_
            refine G.conv (nil_row 9 1) ?_
            refine G.conv (nil_row 124 3) ?_
            refine G.conv (fun w hs => hs.perm (Ω' := [_, _, _, _, _]) ((List.perm_append_comm (l₁ := [_, _]) (l₂ := [_, _, _])).trans (List.Perm.append_left [_] (List.perm_append_comm (l₁ := [_, _]) (l₂ := [_, _]))))) ?_
            exact G.cut [(4, aB false), (3, aP b3 0), (2, aP b2 0), (0, aP b 0)] ⟨_, noPart, k, s.size + 1, _, _, false, false, hk, rfl, Nat.zero_le _, Nat.zero_le _, rfl, by omega, by rw [partS_zero h0 hk]; simp [h46, h91], by rw [partP_zero h0 hk]; simp [h46, h91], rfl, rfl⟩ (by repeat constructor)
          · skip
            refine T.region ?_
            refine L.mv rfl rfl ?_
            have htl := tokLen_le stopB s k
            refine L.callO [_, _] [_] [] rfl e71 rfl rfl (f71n b s k hk hs) ?_
            rintro _ _ ⟨rfl, rfl⟩
            by_cases hn : nameB (tok stopB s k) = true
            · skip
              rw [if_pos hn, if_pos hn]
              skip
              refine L.fa Tryz.underlying98 rfl s9 rfl rfl ?_
              refine L.sto 0 s9 rfl rfl rfl rfl rfl ?_
              refine L.as rfl rfl ?_
              refine L.last ?_
              refine G.conv (fun w hs => hs.perm (Ω' := [_, _, _]) (List.perm_append_comm (l₁ := [_, _]) (l₂ := [_]))) ?_
              refine G.conv (nil_row 9 1) ?_
              refine G.conv (nil_row 124 3) ?_
              refine G.conv (fun w hs => hs.perm (Ω' := [_, _, _, _, _]) ((List.perm_append_comm (l₁ := [_, _]) (l₂ := [_, _, _])).trans (List.Perm.append_left [_] (List.perm_append_comm (l₁ := [_, _]) (l₂ := [_, _]))))) ?_
              exact G.cut [(4, aB true), (3, aP b3 0), (2, aP b2 0), (0, aP b 0)] ⟨_, ⟨tok stopB s k, [], [], false⟩, k + tokLen stopB s k, s.size + 1, _, _, false, true, by omega, rfl, Nat.zero_le _, Nat.zero_le _, rfl, by omega, by simp [partS, h42, h46, h91, nameS, hn, noPart], by simp [partP, h42, h46, h91, nameS, hn, noPart], rfl, rfl⟩ (by repeat constructor)
            · skip
              rw [if_neg hn, if_neg hn]
              skip
              refine L.fa Tryz.underlying98 rfl s9 rfl rfl ?_
              refine L.sto 0 s9 rfl rfl rfl rfl rfl ?_
              refine L.as rfl rfl ?_
              refine L.last ?_
              refine G.conv (fun w hs => hs.perm (Ω' := [_, _, _]) (List.perm_append_comm (l₁ := [_, _]) (l₂ := [_]))) ?_
              refine G.conv (nil_row 9 1) ?_
              refine G.conv (nil_row 124 3) ?_
              refine G.conv (fun w hs => hs.perm (Ω' := [_, _, _, _, _]) ((List.perm_append_comm (l₁ := [_, _]) (l₂ := [_, _, _])).trans (List.Perm.append_left [_] (List.perm_append_comm (l₁ := [_, _]) (l₂ := [_, _]))))) ?_
              exact G.cut [(4, aB true), (3, aP b3 0), (2, aP b2 0), (0, aP b 0)] ⟨_, noPart, k, s.size + 1, _, _, true, true, hk, rfl, Nat.zero_le _, Nat.zero_le _, rfl, by omega, by simp [partS, h42, h46, h91, nameS, hn], by simp [partP, h42, h46, h91, nameS, hn], rfl, rfl⟩ (by repeat constructor)
end Go.Proofs.YtimimkdgofiloaaGreatDoor
