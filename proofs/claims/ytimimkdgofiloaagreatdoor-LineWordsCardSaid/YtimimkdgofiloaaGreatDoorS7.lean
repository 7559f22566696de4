/- The program's reader of selectors: selectors. Printed by gen.py. -/
import Derived.Test.YtimimkdgofiloaaGreatDoorS6
namespace Go.Proofs.YtimimkdgofiloaaGreatDoor
open Go Go.Q
def sel (l : List SPart) : List (List D) := l.map SPart.d
@[simp] theorem sel_len (l : List SPart) : (sel l).length = l.length := by simp [sel]
theorem sel_snoc (l : List SPart) (p : SPart) : sel (l ++ [p]) = sel l ++ [p.d] := by simp [sel]
set_option maxHeartbeats 4000000 in
theorem f29 (s : ByteArray) (hs : s.size ≤ 400) : Fc Tryz.prog 29 [S_ s] [] (fun x Ω => Ω = [] ∧ ∃ (l : List SPart) (place e : Int), x = .t [L_ 4 (sel l), N_ place, N_ e] ∧ (match readS s with | some ps => e = 0 ∧ l = ps ∧ place = 0 | none => e = 2 ∧ l = [] ∧ place = (placeS s : Int))) := by
  refine Fc.enter Tryz.func29 rfl Tryz.ntmps29 rfl fun X w => ?_
  refine T.rg ?_
  refine L.as rfl rfl ?_
  refine L.as rfl rfl ?_
  refine L.as rfl rfl ?_
  refine L.nil ?_
  refine T.of_seq ?_
  refine T.rg ?_
  refine L.mv rfl rfl ?_
  refine L.lenS Tryz.underlying9 rfl rfl ?_
  refine L.cmp rfl rfl rfl rfl ?_
  refine L.nil ?_
  refine T.cond rfl (fun h12 => ?_) (fun h12 => ?_)
  · skip
    exfalso
    simp at h12
    omega
  · skip
    refine T.skip ?_
    refine T.go (fun _ _ h => h) ?_
    refine T.rg ?_
    refine L.mv rfl rfl ?_
    refine L.bld p95 z95 rfl rfl rfl rfl rfl ?_
    refine L.box rfl rfl fun b15 => ?_
    refine L.as rfl rfl ?_
    refine L.nil ?_
    refine T.rg ?_
    refine L.mv rfl rfl ?_
    refine L.callO [] [_] [] rfl e42 rfl rfl (f42 b15 s 0 false (Nat.zero_le _) (by omega)) ?_
    rintro _ _ ⟨rfl, rfl⟩
    refine L.nil ?_
    refine T.rg ?_
    refine L.as rfl rfl ?_
    refine L.nil ?_
    refine T.rg ?_
    refine L.as rfl rfl ?_
    refine L.nil ?_
    refine T.block ?_
    refine T.conv (nil_row 98 4) ?_
    refine T.loop (fun m σ Ω => ∃ (acc : List SPart) (j f : Nat) (v : Value) (child : Bool), j ≤ s.size ∧ s.size - j < f ∧ m = f ∧ acc.length ≤ j ∧ readS s = partsS s f j child acc ∧ placeS s = partsP s f j ∧ σ = [(7, aB child), (6, aR v), (5, aP b15 0), (0, aS s)] ∧ Ω = [.row v 98 4 (sel acc), rd b15 s j false]) (s.size + 1) _ (⟨[], blanksN s 0, s.size + 1, _, false, blanksN_le (Nat.zero_le _), by omega, rfl, by simp, rfl, rfl, rfl, rfl⟩) (by repeat constructor) ?_
    rintro m σ Ω ⟨acc, j, f, v, child, hj, hf, rfl, hacc, hS, hPl, rfl, rfl⟩
    obtain ⟨g, rfl⟩ : ∃ g, m = g + 1 := ⟨m - 1, by omega⟩
    refine T.block ?_
    refine T.rg ?_
    refine L.mv rfl rfl ?_
    refine L.callO [_] [_] [] rfl e43 rfl rfl (f43 b15 s j hj (by omega)) ?_
    rintro _ _ ⟨p, j', bad, rfl, hpc, hj', rfl, hlc, hlp, hP, hbad⟩
    refine L.alloc z98 rfl rfl fun b8 => ?_
    refine L.stog 0 s98 rfl rfl rfl rfl rfl rfl ?_
    refine L.nil ?_
    refine T.rg ?_
    refine L.mv rfl rfl ?_
    refine L.fa Tryz.underlying98 rfl s4 rfl rfl ?_
    refine L.sto 0 s4 rfl rfl rfl rfl rfl ?_
    refine L.nil ?_
    refine T.of_seq ?_
    refine T.rg ?_
    refine L.mv rfl rfl ?_
    refine L.nilck rfl rfl ?_
    refine L.fa Tryz.underlying95 rfl s4 rfl rfl ?_
    rcases bad with _ | _
    · skip
      rw [if_neg (by decide)] at hP
      have hlt0 := partS_lt hj hP
      have hb1 := blanksN_le (s := s) (a := j') hj'
      have hb0 := blanksN_ge s j'
      refine L.ld 2 o4 rfl rfl rfl rfl ?_
      refine L.nil ?_
      refine T.condF rfl ?_
      refine T.skip ?_
      refine T.go (fun _ _ h => h) ?_
      refine T.rg ?_
      refine L.mv rfl rfl ?_
      refine L.ldg 0 a98 s98 rfl rfl rfl rfl rfl ?_
      refine L.bsD rfl Tryz.underlying38 i98 rfl rfl rfl rfl rfl ?_
      refine L.app 1 Tryz.underlying38 i98 rfl rfl rfl rfl rfl (by simp; omega) (by simp; omega) rfl (fun _ => rfl) fun v33 => ?_
      refine L.as rfl rfl ?_
      refine L.nil ?_
      refine T.rg ?_
      refine L.mv rfl rfl ?_
      refine L.callO [_, _] [_] [] rfl e42 rfl rfl (f42 b15 s j' false hj' (by omega)) ?_
      rintro _ _ ⟨rfl, rfl⟩
      refine L.as rfl rfl ?_
      refine L.nil ?_
      refine T.rg ?_
      refine L.mv rfl rfl ?_
      refine L.callO [_, _] [_] [] rfl e44 rfl rfl (f44 b15 s (blanksN s j') false hb1 (by omega)) ?_
      rintro _ _ ⟨rfl, rfl⟩
      refine L.cmp rfl rfl rfl rfl ?_
      refine L.as rfl rfl ?_
      refine L.nil ?_
      refine T.block ?_
      refine T.rg ?_
      refine L.mv rfl rfl ?_
      refine L.as rfl rfl ?_
      refine L.nil ?_
      refine T.cond rfl (fun h39 => ?_) (fun h39 => ?_)
      · skip
        have h62 : nextB s (blanksN s j') = 62 := b8_eq (d := 62) h39
        have hlt := nextB_lt (s := s) (k := blanksN s j') (by rw [h62]; decide)
        have hne : ¬ blanksN s j' = s.size := by omega
        refine T.rg ?_
        refine L.mv rfl rfl ?_
        refine L.nilck rfl rfl ?_
        refine L.fa Tryz.underlying95 rfl s3 rfl rfl ?_
        refine L.ld 2 o3 rfl rfl rfl rfl ?_
        refine L.ar ((blanksN s j' + 1 : Nat) : Int) rfl rfl rfl (by omega) rfl ?_
        refine L.nilck rfl rfl ?_
        refine L.fa Tryz.underlying95 rfl s3 rfl rfl ?_
        refine L.sto 2 s3 rfl rfl rfl rfl rfl ?_
        refine L.nil ?_
        refine T.region ?_
        refine L.mv rfl rfl ?_
        refine L.callO [_, _] [_] [] rfl e42 rfl rfl (f42 b15 s (blanksN s j' + 1) false hlt (by omega)) ?_
        rintro _ _ ⟨rfl, rfl⟩
        refine L.last ?_
        refine G.conv (drop_at (i := 0) rfl rfl) ?_
        have hb2 := blanksN_le (s := s) (a := blanksN s j' + 1) hlt
        have hb3 := blanksN_ge s (blanksN s j' + 1)
        refine G.round g _ (by omega) ⟨acc ++ [{ p with child := child }], blanksN s (blanksN s j' + 1), g, _, (((nextB s (blanksN s j')).toNat : Int) == 62), hb2, by omega, rfl, by simp; omega, by rw [hS, partsS, hP]; simp [hne, h62], by rw [hPl, partsP, hP]; simp [hne, h62], rfl, by rw [sel_snoc]; rfl⟩ (by repeat constructor)
      · skip
        have h62 : ¬ nextB s (blanksN s j') = 62 := b8_ne (d := 62) h39
        refine T.rg ?_
        refine L.mv rfl rfl ?_
        refine L.nilck rfl rfl ?_
        refine L.fa Tryz.underlying95 rfl s3 rfl rfl ?_
        refine L.ld 2 o3 rfl rfl rfl rfl ?_
        refine L.mv rfl rfl ?_
        refine L.lenS Tryz.underlying9 rfl rfl ?_
        refine L.cmp rfl rfl rfl rfl ?_
        refine L.as rfl rfl ?_
        refine L.nil ?_
        refine T.cond rfl (fun h50 => ?_) (fun h50 => ?_)
        · skip
          have heq : blanksN s j' = s.size := by simp at h50; omega
          refine T.rg ?_
          refine L.mv rfl rfl ?_
          refine L.as rfl rfl ?_
          refine L.as rfl rfl ?_
          refine L.as rfl rfl ?_
          refine L.nil ?_
          refine T.ret ?_
          refine G.conv (drop_at (i := 0) rfl rfl) ?_
          refine G.pub 2 0 rfl rfl rfl ?_
          refine G.conv (drop_at (i := 0) rfl rfl) ?_
          refine G.ret (res3 Tryz.results29 rfl rfl rfl) ?_
          refine ⟨rfl, acc ++ [{ p with child := child }], 0, 0, by rw [sel_snoc]; rfl, ?_⟩
          have hR : readS s = some (acc ++ [{ p with child := child }]) := by rw [hS, partsS, hP]; simp [heq]
          rw [hR]; exact ⟨rfl, rfl, rfl⟩
        · skip
          have hne : ¬ blanksN s j' = s.size := by simp at h50; omega
          refine T.rg ?_
          refine L.mv rfl rfl ?_
          refine L.not rfl rfl ?_
          refine L.as rfl rfl ?_
          refine L.nil ?_
          refine T.cond rfl (fun h59 => ?_) (fun h59 => ?_)
          · skip
            have hbl : blanksN s j' = j' := by simp at h59; omega
            refine T.of_seq ?_
            refine T.drawD 5 [(5, aP b15 0)] [aP b15 0, aP b15 0, aP b15 1, aN (blanksN s j' : Nat), aR (.slice none 0 0)] hmixed rfl rfl rfl rfl (by repeat constructor) ⟨?_, ?_, ?_, ?_, ?_, trivial⟩ ?_
            · intro σ' Ωf hsb hA
              refine L.mv (hsb.get rfl) rfl ?_
              exact L.last (G.finD rfl)
            · intro σ' Ωf hsb hA
              refine L.nilck (hA 0 rfl) rfl ?_
              exact L.last (G.finD rfl)
            · intro σ' Ωf hsb hA
              refine L.fa Tryz.underlying95 rfl s3 (hA 1 rfl) rfl ?_
              exact L.last (G.finD rfl)
            · intro σ' Ωf hsb hA
              refine L.ld 2 o3 (hA 2 rfl) rfl rfl rfl ?_
              exact L.last (G.finD rfl)
            · intro σ' Ωf hsb hA
              refine L.as rfl rfl ?_
              exact L.last (G.finD rfl)
            refine L.as rfl rfl ?_
            refine L.as rfl rfl ?_
            refine L.last ?_
            refine T.go (fun _ _ h => h) ?_
            refine T.ret ?_
            refine G.conv (drop_at (i := 0) rfl rfl) ?_
            refine G.conv (drop_at (i := 0) rfl rfl) ?_
            refine G.conv (drop_at (i := 0) rfl rfl) ?_
            refine G.nilD 2 4 rfl ?_
            refine G.ret (res3 Tryz.results29 rfl rfl rfl) ?_
            refine ⟨rfl, [], _, 2, rfl, ?_⟩
            have hR : readS s = none := by rw [hS, partsS, hP]; simp only []; rw [if_neg hne, if_neg h62, if_pos hbl]
            rw [hR]; exact ⟨rfl, rfl, by rw [hPl, partsP, hP]; simp only []; rw [if_neg hne, if_neg h62, if_pos hbl, hbl]⟩
          · skip
            have hbl : ¬ blanksN s j' = j' := by simp at h59; omega
            refine T.skip ?_
            refine G.conv (drop_at (i := 0) rfl rfl) ?_
            refine G.round g _ (by omega) ⟨acc ++ [{ p with child := child }], blanksN s j', g, _, (((nextB s (blanksN s j')).toNat : Int) == 62), hb1, by omega, rfl, by simp; omega, by rw [hS, partsS, hP]; simp [hne, h62, hbl, h39], by rw [hPl, partsP, hP]; simp [hne, h62, hbl], rfl, by rw [sel_snoc]; rfl⟩ (by repeat constructor)
    · skip
      rw [if_pos rfl] at hP
      refine L.ld 2 o4 rfl rfl rfl rfl ?_
      refine L.nil ?_
      refine T.condT rfl ?_
      refine T.of_seq ?_
      refine T.drawD 5 [(5, aP b15 0)] [aP b15 0, aP b15 0, aP b15 1, aN j', aR (.slice none 0 0)] hmixed rfl rfl rfl rfl (by repeat constructor) ⟨?_, ?_, ?_, ?_, ?_, trivial⟩ ?_
      · intro σ' Ωf hsb hA
        refine L.mv (hsb.get rfl) rfl ?_
        exact L.last (G.finD rfl)
      · intro σ' Ωf hsb hA
        refine L.nilck (hA 0 rfl) rfl ?_
        exact L.last (G.finD rfl)
      · intro σ' Ωf hsb hA
        refine L.fa Tryz.underlying95 rfl s3 (hA 1 rfl) rfl ?_
        exact L.last (G.finD rfl)
      · intro σ' Ωf hsb hA
        refine L.ld 2 o3 (hA 2 rfl) rfl rfl rfl ?_
        exact L.last (G.finD rfl)
      · intro σ' Ωf hsb hA
        refine L.as rfl rfl ?_
        exact L.last (G.finD rfl)
      refine L.as rfl rfl ?_
      refine L.as rfl rfl ?_
      refine L.last ?_
      refine T.go (fun _ _ h => h) ?_
      refine T.ret ?_
      refine G.conv (drop_at (i := 0) rfl rfl) ?_
      refine G.conv (drop_at (i := 0) rfl rfl) ?_
      refine G.conv (drop_at (i := 0) rfl rfl) ?_
      refine G.nilD 2 4 rfl ?_
      refine G.ret (res3 Tryz.results29 rfl rfl rfl) ?_
      refine ⟨rfl, [], _, 2, rfl, ?_⟩
      have hR : readS s = none := by rw [hS, partsS, hP]
      rw [hR]; exact ⟨rfl, rfl, by rw [hPl, partsP, hP, hbad rfl]⟩
end Go.Proofs.YtimimkdgofiloaaGreatDoor
