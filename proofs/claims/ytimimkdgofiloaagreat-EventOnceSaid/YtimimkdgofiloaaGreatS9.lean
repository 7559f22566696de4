/- The document's reader of selectors: selectors. Printed by gen.py. -/
import Derived.Test.YtimimkdgofiloaaGreatS8
namespace Go.Proofs.YtimimkdgofiloaaGreat
open Go Go.Q
set_option maxHeartbeats 4000000 in
theorem f21 (s : ByteArray) (hs : s.size ≤ 400) : Fc Tryz.prog 21 [S_ s] [] (fun x Ω => Ω = [] ∧ ∃ (l : List SPart) (place e : Int), x = .t [L_ 4 (sel l), N_ place, N_ e] ∧ (match readS s with | some ps => e = 0 ∧ l = ps | none => e = 2 ∧ l = [])) := by
  refine Fc.enter Tryz.func21 rfl Tryz.ntmps21 rfl fun X w => ?_
  refine T.rg ?_
  refine L.as rfl rfl ?_
  refine L.as rfl rfl ?_
  refine L.as rfl rfl ?_
  refine L.nil ?_
  refine T.of_seq ?_
  refine T.rg ?_
  refine L.mv rfl rfl ?_
  refine L.lenS Tryz.underlying9 rfl rfl ?_
  refine L.cmp rfl rfl rfl rfl ?_
  refine L.nil ?_
  refine T.cond rfl (fun h13 => ?_) (fun h13 => ?_)
  · skip
    exfalso
    simp at h13
    omega
  · skip
    refine T.skip ?_
    refine T.go (fun _ _ h => h) ?_
    refine T.rg ?_
    refine L.bsR rfl Tryz.underlying81 i126 rfl rfl rfl rfl rfl fun b14 => ?_
    refine L.as rfl rfl ?_
    refine L.nil ?_
    refine T.rg ?_
    refine L.mv rfl rfl ?_
    refine L.call e39 rfl rfl (f39 s (by omega) 0 (Nat.zero_le _)) ?_
    rintro _ _ ⟨rfl, rfl⟩
    refine L.as rfl rfl ?_
    refine L.nil ?_
    refine T.rg ?_
    refine L.as rfl rfl ?_
    refine L.nil ?_
    refine T.block ?_
    refine T.loop (fun m σ Ω => ∃ (acc : List SPart) (j f : Nat) (v : Value) (child : Bool), j ≤ s.size ∧ s.size - j < f ∧ m = f ∧ acc.length ≤ j ∧ readS s = partsS s f j child acc ∧ σ = [(7, aB child), (6, aN j), (5, aR v), (0, aS s)] ∧ Ω = [.row v 126 4 (sel acc)]) (s.size + 1) _ (⟨[], blanksN s 0, s.size + 1, _, false, blanksN_le (Nat.zero_le _), by omega, rfl, by simp, rfl, rfl, rfl⟩) (by repeat constructor) ?_
    rintro m σ Ω ⟨acc, j, f, v, child, hj, hf, rfl, hacc, hS, rfl, rfl⟩
    obtain ⟨g, rfl⟩ : ∃ g, m = g + 1 := ⟨m - 1, by omega⟩
    refine T.block ?_
    refine T.rg ?_
    refine L.mv rfl rfl ?_
    refine L.mv rfl rfl ?_
    refine L.call e40 rfl rfl (f40 s j hj (by omega)) ?_
    rintro _ _ ⟨rfl, p, j', ok, rfl, hpc, hP⟩
    refine L.mv rfl rfl ?_
    refine L.ex rfl rfl rfl ?_
    refine L.ex rfl rfl rfl ?_
    refine L.ex rfl rfl rfl ?_
    refine L.alloc z126 rfl rfl fun b8 => ?_
    refine L.stog 0 s126 rfl rfl rfl rfl rfl rfl ?_
    refine L.as rfl rfl ?_
    refine L.as rfl rfl ?_
    refine L.nil ?_
    refine T.of_seq ?_
    refine T.rg ?_
    refine L.mv rfl rfl ?_
    refine L.not rfl rfl ?_
    refine L.nil ?_
    refine T.cond rfl (fun h25 => ?_) (fun h25 => ?_)
    · skip
      obtain rfl : ok = false := by simpa using h25
      refine T.rg ?_
      refine L.mv rfl rfl ?_
      refine L.as rfl rfl ?_
      refine L.as rfl rfl ?_
      refine L.as rfl rfl ?_
      refine L.nil ?_
      refine T.ret ?_
      refine G.conv (drop_at (i := 0) rfl rfl) ?_
      refine G.conv (drop_at (i := 0) rfl rfl) ?_
      refine G.nilD 2 4 rfl ?_
      refine G.ret (res3 Tryz.results21 rfl rfl rfl) ?_
      refine ⟨rfl, [], _, 2, rfl, ?_⟩
      rw [if_neg (by decide)] at hP
      have hR : readS s = none := by rw [hS, partsS, hP]
      rw [hR]; exact ⟨rfl, rfl⟩
    · skip
      obtain rfl : ok = true := by simpa using h25
      rw [if_pos rfl] at hP
      have hlt0 := partS_lt hj hP
      have hj' := hlt0.2
      have hb1 := blanksN_le (s := s) (a := j') hj'
      have hb0 := blanksN_ge s j'
      refine T.skip ?_
      refine T.go (fun _ _ h => h) ?_
      refine T.rg ?_
      refine L.mv rfl rfl ?_
      refine L.fa Tryz.underlying126 rfl s4 rfl rfl ?_
      refine L.sto 0 s4 rfl rfl rfl rfl rfl ?_
      refine L.nil ?_
      refine T.rg ?_
      refine L.mv rfl rfl ?_
      refine L.ldg 0 a126 s126 rfl rfl rfl rfl rfl ?_
      refine L.bsD rfl Tryz.underlying81 i126 rfl rfl rfl rfl rfl ?_
      refine L.app 1 Tryz.underlying81 i126 rfl rfl rfl rfl rfl (by simp; omega) (by simp; omega) rfl (fun _ => rfl) fun v32 => ?_
      refine L.as rfl rfl ?_
      refine L.nil ?_
      refine T.rg ?_
      refine L.mv rfl rfl ?_
      refine L.mv rfl rfl ?_
      refine L.call e39 rfl rfl (f39 s (by omega) j' hj') ?_
      rintro _ _ ⟨rfl, rfl⟩
      refine L.as rfl rfl ?_
      refine L.nil ?_
      refine T.of_seq ?_
      refine T.rg ?_
      refine L.mv rfl rfl ?_
      refine L.mv rfl rfl ?_
      refine L.lenS Tryz.underlying9 rfl rfl ?_
      refine L.cmp rfl rfl rfl rfl ?_
      refine L.nil ?_
      refine T.cond rfl (fun h39 => ?_) (fun h39 => ?_)
      · skip
        have heq : blanksN s j' = s.size := by simp at h39; omega
        refine T.rg ?_
        refine L.mv rfl rfl ?_
        refine L.as rfl rfl ?_
        refine L.as rfl rfl ?_
        refine L.as rfl rfl ?_
        refine L.nil ?_
        refine T.ret ?_
        refine G.conv (drop_at (i := 0) rfl rfl) ?_
        refine G.pub 2 0 rfl rfl rfl ?_
        refine G.ret (res3 Tryz.results21 rfl rfl rfl) ?_
        refine ⟨rfl, acc ++ [{ p with child := child }], 0, 0, by rw [sel_snoc]; rfl, ?_⟩
        have hR : readS s = some (acc ++ [{ p with child := child }]) := by rw [hS, partsS, hP]; simp [heq]
        rw [hR]; exact ⟨rfl, rfl⟩
      · skip
        have hne : ¬ blanksN s j' = s.size := by simp at h39; omega
        have hlt : blanksN s j' < s.size := by omega
        have hnb := nextB_in hlt
        refine T.skip ?_
        refine T.go (fun _ _ h => h) ?_
        refine T.rg ?_
        refine L.mv rfl rfl ?_
        refine L.mv rfl rfl ?_
        refine L.ixS (blanksN s j') Tryz.underlying9 rfl rfl rfl hlt rfl ?_
        rw [← hnb]
        refine L.cmp rfl rfl rfl rfl ?_
        refine L.as rfl rfl ?_
        refine L.nil ?_
        refine T.rg ?_
        refine L.mv rfl rfl ?_
        refine L.nil ?_
        refine T.cond rfl (fun h45 => ?_) (fun h45 => ?_)
        · skip
          have n62 : nextB s (blanksN s j') = 62 := b8_eq (d := 62) h45
          refine T.region ?_
          refine L.mv rfl rfl ?_
          refine L.mv rfl rfl ?_
          refine L.ar ((blanksN s j' + 1 : Nat) : Int) rfl rfl rfl (by omega) rfl ?_
          refine L.call e39 rfl rfl (f39 s (by omega) (blanksN s j' + 1) hlt) ?_
          rintro _ _ ⟨rfl, rfl⟩
          refine L.as rfl rfl ?_
          refine L.last ?_
          refine G.conv (drop_at (i := 0) rfl rfl) ?_
          have hb2 := blanksN_le (s := s) (a := blanksN s j' + 1) hlt
          have hb3 := blanksN_ge s (blanksN s j' + 1)
          refine G.round g _ (by omega) ⟨acc ++ [{ p with child := child }], blanksN s (blanksN s j' + 1), g, _, (((nextB s (blanksN s j')).toNat : Int) == 62), hb2, by omega, rfl, by simp; omega, by rw [hS, partsS, hP]; simp [hne, n62], rfl, by rw [sel_snoc]; rfl⟩ (by repeat constructor)
        · skip
          have n62 : ¬ nextB s (blanksN s j') = 62 := b8_ne (d := 62) h45
          have c62 := h45
          refine T.rg ?_
          refine L.mv rfl rfl ?_
          refine L.mv rfl rfl ?_
          refine L.cmp rfl rfl rfl rfl ?_
          refine L.nil ?_
          refine T.cond rfl (fun h52 => ?_) (fun h52 => ?_)
          · skip
            have hbl : blanksN s j' = j' := by simp at h52; omega
            refine T.rg ?_
            refine L.mv rfl rfl ?_
            refine L.as rfl rfl ?_
            refine L.as rfl rfl ?_
            refine L.as rfl rfl ?_
            refine L.nil ?_
            refine T.ret ?_
            refine G.conv (drop_at (i := 0) rfl rfl) ?_
            refine G.conv (drop_at (i := 0) rfl rfl) ?_
            refine G.nilD 2 4 rfl ?_
            refine G.ret (res3 Tryz.results21 rfl rfl rfl) ?_
            refine ⟨rfl, [], _, 2, rfl, ?_⟩
            have hR : readS s = none := by rw [hS, partsS, hP]; simp only []; rw [if_neg hne, if_neg n62, if_pos hbl]
            rw [hR]; exact ⟨rfl, rfl⟩
          · skip
            have hbl : ¬ blanksN s j' = j' := by simp at h52; omega
            refine T.skip ?_
            refine G.conv (drop_at (i := 0) rfl rfl) ?_
            refine G.round g _ (by omega) ⟨acc ++ [{ p with child := child }], blanksN s j', g, _, (((nextB s (blanksN s j')).toNat : Int) == 62), hb1, by omega, rfl, by simp; omega, by rw [hS, partsS, hP]; simp [hne, n62, hbl, c62], rfl, by rw [sel_snoc]; rfl⟩ (by repeat constructor)
end Go.Proofs.YtimimkdgofiloaaGreat
