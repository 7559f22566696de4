/- word.Number. Printed by gen.py. -/
import Derived.Test.YtimimkdgofiloaaGreatDoorS51
import Derived.Test.YtimimkdgofiloaaGreatDoorS1
import Derived.Laws.BitsLemmas
namespace Go.Proofs.YtimimkdgofiloaaGreatDoor
open Go Go.Q
theorem dig_eq (c : UInt8) : digitB c = isDig c := by
  unfold digitB isDig
  congr 1 <;> (apply decide_eq_decide.2; omega)
theorem all_dig (d : List UInt8) : allB digitB (mkB d) = d.all isDig := by
  unfold allB; rw [mkB_data]; congr 1; funext c; exact dig_eq c
/-- What may not be a number. -/
def badW (d : List UInt8) (minus : Bool) : Bool := d.isEmpty || decide (10 < d.length) || !d.all isDig || (d.head? == some 48 && (decide (1 < d.length) || minus))
def signW (s : List UInt8) : Bool := decide (s.take 1 = [45])
def digW (s : List UInt8) : List UInt8 := if s.take 1 = [45] then s.drop 1 else s
def negW (b : Bool) (n : Int) : Int := if b = true then -n else n
/-- The number that a text is. -/
def numW (s : List UInt8) : Option Int := if badW (digW s) (signW s) = true then none else
  if negW (signW s) (valL (digW s)) < -2147483648 ∨ 2147483647 < negW (signW s) (valL (digW s)) then none else some (negW (signW s) (valL (digW s)))
theorem numW_bad {s : List UInt8} (h : badW (digW s) (signW s) = true) : numW s = none := by unfold numW; rw [if_pos h]
theorem emp_dec (d : List UInt8) : decide (mkB d = ⟨#[]⟩) = d.isEmpty := by
  have := neF d
  cases h1 : decide (mkB d = ⟨#[]⟩) <;> rw [h1] at this <;> simp at this <;> simp [this]
theorem hd48 {c : UInt8} {r : List UInt8} : ((c.toNat : Int) == 48) = ((c :: r).head? == some 48) := by
  by_cases h : c = 48
  · subst h; rfl
  · have h1 : c.toNat ≠ 48 := fun e => h (UInt8.toNat_inj.1 (by rw [e]; rfl))
    have e1 : ((c.toNat : Int) == 48) = false := by simp; omega
    have e2 : ((c :: r).head? == some 48) = false := by simp [h]
    rw [e1, e2]
theorem take_dig {d : List UInt8} (h : d.all isDig = true) (k : Nat) : ∀ c ∈ d.take k, isDig c = true := fun c hc => List.all_eq_true.1 h c (List.mem_of_mem_take hc)
theorem bys_mk (d : List UInt8) : bys (mkB d) = d.map fun b => [D.i .u8 (b.toNat : Int)] := by unfold bys; rw [mkB_data]
theorem bys_get {d : List UInt8} {k : Nat} (h : k < d.length) : (bys (mkB d))[k]? = some [D.i .u8 (d[k].toNat : Int)] := by rw [bys_mk]; simp [h]
theorem bys_len (d : List UInt8) : (bys (mkB d)).length = d.length := by rw [bys_mk]; simp
theorem pow_all : ∀ k, k ≤ 10 → (10 : Int) ^ k ≤ 10000000000 := by decide +kernel
theorem pow_le {k : Nat} (h : k ≤ 10) : (10 : Int) ^ k ≤ 10000000000 := pow_all k h
set_option maxHeartbeats 4000000 in
theorem f46 (s : List UInt8) (hs : s.length ≤ 1000000) : Fc Tryz.prog 46 [S_ (mkB s)] [] (Just (.t [N_ ((numW s).getD 0), Bo (numW s).isSome])) := by
  refine Fc.enter Tryz.func46 rfl Tryz.ntmps46 rfl fun X w => ?_
  refine T.rg ?_
  refine L.as rfl rfl ?_
  refine L.as rfl rfl ?_
  refine L.nil ?_
  refine T.rg ?_
  refine L.mv rfl rfl ?_
  refine L.call e76 rfl rfl (f76 s [45] hs (by decide)) ?_
  rintro _ _ ⟨rfl, rfl⟩
  rw [show (if s.take ([45] : List UInt8).length = [45] then s.drop ([45] : List UInt8).length else s) = digW s from rfl, show decide (s.take ([45] : List UInt8).length = [45]) = signW s from rfl]
  refine L.mv rfl rfl ?_
  refine L.ex rfl rfl rfl ?_
  refine L.ex rfl rfl rfl ?_
  refine L.as rfl rfl ?_
  refine L.as rfl rfl ?_
  refine L.nil ?_
  refine T.cut (fun σ Ω => badW (digW s) (signW s) = false ∧ σ = [(5, aB (signW s)), (4, aS (mkB (digW s)))] ∧ Ω = []) ?_ ?_
  · rintro σ Ω ⟨hgood, rfl, rfl⟩
    refine T.rg ?_
    have hg := hgood
    unfold badW at hg
    simp only [Bool.or_eq_false_iff, Bool.not_eq_false'] at hg
    obtain ⟨⟨⟨_, h10⟩, hall⟩, _⟩ := hg
    have hd10 : (digW s).length ≤ 10 := by have := of_decide_eq_false h10; omega
    refine L.as rfl rfl ?_
    refine L.nil ?_
    refine T.of_seq ?_
    refine T.rg ?_
    refine L.mv rfl rfl ?_
    refine L.cvSB Tryz.underlying9 Tryz.underlying51 Tryz.underlying5 rfl (by rw [mkB_size]; omega) rfl ?_
    refine L.lenL Tryz.underlying51 rfl rfl fun hl41 => ?_
    rw [bys_len] at hl41 ⊢
    refine L.mv rfl rfl ?_
    refine L.nil ?_
    refine T.block ?_
    refine T.loop (fun m σ Ω => ∃ k : Nat, k ≤ (digW s).length ∧ m = (digW s).length - k ∧ σ = [(42, aN k), (41, aN (digW s).length), (40, aL 1 (bys (mkB (digW s)))), (6, aN (valL ((digW s).take k))), (5, aB (signW s))] ∧ Ω = []) ((digW s).length) _ (⟨0, Nat.zero_le _, rfl, rfl, rfl⟩) (by repeat constructor) ?_
    rintro m σ Ω ⟨k, hk, rfl, rfl, rfl⟩
    have hvb := valL_bound _ ((digW s).take k) rfl (take_dig hall k)
    have hp10 := pow_le (k := ((digW s).take k).length) (by rw [List.length_take]; omega)
    refine T.rg ?_
    refine L.cmp rfl rfl rfl rfl ?_
    refine L.nil ?_
    refine T.of_seq ?_
    refine T.cond rfl (fun h43 => ?_) (fun h43 => ?_)
    · skip
      have hlt : k < (digW s).length := by have := of_decide_eq_true h43; omega
      have hdg : 48 ≤ (digW s)[k].toNat ∧ (digW s)[k].toNat ≤ 57 := by have := List.all_eq_true.1 hall _ (List.getElem_mem hlt); unfold isDig at this; simpa using this
      refine T.skip ?_
      refine T.go (fun _ _ h => h) ?_
      refine T.of_seq ?_
      refine T.block ?_
      refine T.rg ?_
      refine L.ixL k _ Tryz.underlying51 s5 rfl rfl rfl (bys_get hlt) rfl ?_
      refine L.li o5 rfl rfl ?_
      refine L.as rfl rfl ?_
      refine L.nil ?_
      refine T.region ?_
      refine L.mv rfl rfl ?_
      refine L.ar (10 * valL ((digW s).take k)) rfl rfl rfl (by omega) rfl ?_
      refine L.mv rfl rfl ?_
      refine L.arK (((digW s)[k].toNat : Int) - 48) rfl rfl rfl (by rw [IntKind.wrap_u8]; omega) rfl ?_
      refine L.cvI (((digW s)[k].toNat : Int) - 48) (by rw [Tryz.underlying5]; rfl) Tryz.underlying3 rfl (wrap64_in (by omega) (by omega)) rfl ?_
      refine L.ar (valL ((digW s).take (k + 1))) rfl rfl rfl (by rw [show (digW s).take (k + 1) = (digW s).take k ++ [(digW s)[k]] by rw [List.take_add_one, List.getElem?_eq_getElem hlt]; rfl, valL_snoc]; omega) rfl ?_
      refine L.as rfl rfl ?_
      refine L.last ?_
      refine T.go (fun _ _ h => h) ?_
      refine T.region ?_
      refine L.ar ((k + 1 : Nat) : Int) rfl rfl rfl (by omega) rfl ?_
      refine L.mv rfl rfl ?_
      refine L.last ?_
      refine G.round ((digW s).length - (k + 1)) _ (by omega) ⟨k + 1, by omega, rfl, rfl, rfl⟩ (by repeat constructor)
    · skip
      have hge : (digW s).length ≤ k := by have := of_decide_eq_false h43; omega
      rw [List.take_of_length_le hge] at hvb hp10 ⊢
      refine T.exit ?_
      refine T.go (fun _ _ h => h) ?_
      refine T.cut (fun σ Ω => σ = [(6, aN (negW (signW s) (valL (digW s))))] ∧ Ω = []) ?_ ?_
      · rintro σ Ω ⟨rfl, rfl⟩
        refine T.of_seq ?_
        refine T.rg ?_
        refine L.mv rfl rfl ?_
        refine L.cmp rfl rfl rfl rfl ?_
        refine L.mv rfl rfl ?_
        refine L.caseB 58 rfl (fun h58 => ?_) (fun h58 => ?_)
        · skip
          have hlo : (negW (signW s) (valL (digW s))) < -2147483648 := of_decide_eq_true h58
          refine L.off rfl rfl rfl rfl ?_
          refine L.off rfl rfl rfl rfl ?_
          refine L.pkT rfl rfl rfl ?_
          refine L.nil ?_
          refine T.condT rfl ?_
          refine T.rg ?_
          refine L.as rfl rfl ?_
          refine L.as rfl rfl ?_
          refine L.nil ?_
          refine T.ret ?_
          exact G.ret (res2 Tryz.results46 rfl rfl) ⟨rfl, by rw [show numW s = none from by unfold numW; rw [hgood, if_neg (by decide), if_pos (.inl hlo)]]; rfl⟩
        · skip
          have hlo : ¬ (negW (signW s) (valL (digW s))) < -2147483648 := of_decide_eq_false h58
          refine L.on rfl rfl ?_
          refine L.mv rfl rfl ?_
          refine L.on rfl rfl ?_
          refine L.cmp rfl rfl rfl rfl ?_
          refine L.pkF rfl rfl rfl ?_
          refine L.nil ?_
          refine T.cond rfl (fun h61 => ?_) (fun h61 => ?_)
          · skip
            have hhi : 2147483647 < (negW (signW s) (valL (digW s))) := of_decide_eq_true h61
            refine T.rg ?_
            refine L.as rfl rfl ?_
            refine L.as rfl rfl ?_
            refine L.nil ?_
            refine T.ret ?_
            exact G.ret (res2 Tryz.results46 rfl rfl) ⟨rfl, by rw [show numW s = none from by unfold numW; rw [hgood, if_neg (by decide), if_pos (.inr hhi)]]; rfl⟩
          · skip
            have hhi : ¬ 2147483647 < (negW (signW s) (valL (digW s))) := of_decide_eq_false h61
            refine T.skip ?_
            refine T.go (fun _ _ h => h) ?_
            refine T.rg ?_
            refine L.mv rfl rfl ?_
            refine L.as rfl rfl ?_
            refine L.as rfl rfl ?_
            refine L.nil ?_
            refine T.ret ?_
            exact G.ret (res2 Tryz.results46 rfl rfl) ⟨rfl, by rw [show numW s = some (negW (signW s) (valL (digW s))) from by unfold numW; rw [hgood, if_neg (by decide), if_neg (by intro h; exact h.elim hlo hhi)]]; rfl⟩
      · skip
        refine T.rg ?_
        refine L.mv rfl rfl ?_
        refine L.nil ?_
        refine T.cond rfl (fun h53 => ?_) (fun h53 => ?_)
        · skip
          refine T.region ?_
          refine L.mv rfl rfl ?_
          refine L.negN (-(valL (digW s))) rfl (by rw [wrap64_in (by omega) (by omega)]; omega) rfl ?_
          refine L.as rfl rfl ?_
          refine L.last ?_
          exact G.cut _ ⟨rfl, rfl⟩ ⟨congrArg (fun z => some (aN z)) (by unfold negW; rw [h53]; rfl), trivial⟩
        · skip
          refine T.skip ?_
          exact G.cut _ ⟨rfl, rfl⟩ ⟨congrArg (fun z => some (aN z)) (by unfold negW; rw [h53]; rfl), trivial⟩
  · skip
    refine T.rg ?_
    refine L.mv rfl rfl ?_
    refine L.eqS rfl rfl rfl ?_
    rw [emp_dec]
    refine L.mv rfl rfl ?_
    refine L.caseB 16 rfl (fun h16 => ?_) (fun h16 => ?_)
    · skip
      refine L.off rfl rfl rfl rfl ?_
      refine L.off rfl rfl rfl rfl ?_
      refine L.off rfl rfl rfl rfl ?_
      refine L.pkT rfl rfl rfl ?_
      refine L.mv rfl rfl ?_
      refine L.off rfl rfl rfl rfl ?_
      refine L.off rfl rfl rfl rfl ?_
      refine L.off rfl rfl rfl rfl ?_
      refine L.pkT rfl rfl rfl ?_
      refine L.mv rfl rfl ?_
      refine L.off rfl rfl rfl rfl ?_
      refine L.off rfl rfl rfl rfl ?_
      refine L.off rfl rfl rfl rfl ?_
      refine L.off rfl rfl rfl rfl ?_
      refine L.offU rfl rfl rfl ?_
      refine L.offU rfl rfl rfl ?_
      refine L.offU rfl rfl rfl ?_
      refine L.offU rfl rfl rfl ?_
      refine L.offU rfl rfl rfl ?_
      refine L.offU rfl rfl rfl ?_
      refine L.off rfl rfl rfl rfl ?_
      refine L.pkT rfl rfl rfl ?_
      refine L.nil ?_
      refine T.condT rfl ?_
      refine T.rg ?_
      refine L.as rfl rfl ?_
      refine L.as rfl rfl ?_
      refine L.nil ?_
      refine T.ret ?_
      exact G.ret (res2 Tryz.results46 rfl rfl) ⟨rfl, by rw [show numW s = none from numW_bad (by unfold badW; rw [h16]; rfl)]; rfl⟩
    · skip
      have hdl : (digW s).length ≤ s.length := by unfold digW; split <;> simp
      refine L.on rfl rfl ?_
      refine L.mv rfl rfl ?_
      refine L.on rfl rfl ?_
      refine L.lenS Tryz.underlying9 rfl rfl ?_
      rw [mkB_size]
      refine L.on rfl rfl ?_
      refine L.cmp rfl rfl rfl rfl ?_
      refine L.setB (t := 19) (b' := decide (10 < (digW s).length)) rfl (decide_eq_decide.2 (by omega)) ?_
      refine L.pkF rfl rfl rfl ?_
      refine L.mv rfl rfl ?_
      refine L.caseB 21 rfl (fun h21 => ?_) (fun h21 => ?_)
      · skip
        refine L.off rfl rfl rfl rfl ?_
        refine L.off rfl rfl rfl rfl ?_
        refine L.off rfl rfl rfl rfl ?_
        refine L.pkT rfl rfl rfl ?_
        refine L.mv rfl rfl ?_
        refine L.off rfl rfl rfl rfl ?_
        refine L.off rfl rfl rfl rfl ?_
        refine L.off rfl rfl rfl rfl ?_
        refine L.off rfl rfl rfl rfl ?_
        refine L.offU rfl rfl rfl ?_
        refine L.offU rfl rfl rfl ?_
        refine L.offU rfl rfl rfl ?_
        refine L.offU rfl rfl rfl ?_
        refine L.offU rfl rfl rfl ?_
        refine L.offU rfl rfl rfl ?_
        refine L.off rfl rfl rfl rfl ?_
        refine L.pkT rfl rfl rfl ?_
        refine L.nil ?_
        refine T.condT rfl ?_
        refine T.rg ?_
        refine L.as rfl rfl ?_
        refine L.as rfl rfl ?_
        refine L.nil ?_
        refine T.ret ?_
        exact G.ret (res2 Tryz.results46 rfl rfl) ⟨rfl, by rw [show numW s = none from numW_bad (by unfold badW; rw [h21]; simp)]; rfl⟩
      · skip
        refine L.on rfl rfl ?_
        refine L.mv rfl rfl ?_
        refine L.on rfl rfl ?_
        refine L.call e77 rfl rfl (f77 (mkB (digW s)) (by rw [mkB_size]; omega) 78 digitB e78 f78) ?_
        rintro _ _ ⟨rfl, rfl⟩
        rw [all_dig]
        refine L.on rfl rfl ?_
        refine L.not rfl rfl ?_
        refine L.pkF rfl rfl rfl ?_
        refine L.mv rfl rfl ?_
        refine L.caseB 26 rfl (fun h26 => ?_) (fun h26 => ?_)
        · skip
          refine L.off rfl rfl rfl rfl ?_
          refine L.off rfl rfl rfl rfl ?_
          refine L.off rfl rfl rfl rfl ?_
          refine L.off rfl rfl rfl rfl ?_
          refine L.offU rfl rfl rfl ?_
          refine L.offU rfl rfl rfl ?_
          refine L.offU rfl rfl rfl ?_
          refine L.offU rfl rfl rfl ?_
          refine L.offU rfl rfl rfl ?_
          refine L.offU rfl rfl rfl ?_
          refine L.off rfl rfl rfl rfl ?_
          refine L.pkT rfl rfl rfl ?_
          refine L.nil ?_
          refine T.condT rfl ?_
          refine T.rg ?_
          refine L.as rfl rfl ?_
          refine L.as rfl rfl ?_
          refine L.nil ?_
          refine T.ret ?_
          exact G.ret (res2 Tryz.results46 rfl rfl) ⟨rfl, by rw [show numW s = none from numW_bad (by unfold badW; rw [h26]; simp)]; rfl⟩
        · skip
          obtain ⟨c, r, hcr⟩ : ∃ c r, (digW s) = c :: r := by
            cases hd : (digW s) with
            | nil => rw [hd] at h16; cases h16
            | cons c r => exact ⟨c, r, rfl⟩
          refine L.on rfl rfl ?_
          refine L.mv rfl rfl ?_
          refine L.on rfl rfl ?_
          refine L.ixS 0 Tryz.underlying9 rfl rfl rfl (by rw [mkB_size, hcr]; simp) rfl ?_
          rw [mkB_get]
          refine L.on rfl rfl ?_
          refine L.cmp rfl rfl rfl rfl ?_
          refine L.setB (t := 29) (b' := ((digW s).head? == some 48)) rfl (by simp only [hcr, List.getElem_cons_zero]; exact hd48) ?_
          refine L.on rfl rfl ?_
          refine L.mv rfl rfl ?_
          refine L.caseB 30 rfl (fun h30 => ?_) (fun h30 => ?_)
          · skip
            refine L.on rfl rfl ?_
            refine L.mv rfl rfl ?_
            refine L.on rfl rfl ?_
            refine L.lenS Tryz.underlying9 rfl rfl ?_
            refine L.setV (t := 32) (y := aN ((digW s).length : Int)) rfl (congrArg aN (by rw [mkB_size])) ?_
            refine L.on rfl rfl ?_
            refine L.cmp rfl rfl rfl rfl ?_
            refine L.setB (t := 33) (b' := decide (1 < (digW s).length)) rfl (decide_eq_decide.2 (by omega)) ?_
            refine L.on rfl rfl ?_
            refine L.mv rfl rfl ?_
            refine L.caseB 34 rfl (fun h34 => ?_) (fun h34 => ?_)
            · skip
              refine L.off rfl rfl rfl rfl ?_
              refine L.on rfl rfl ?_
              refine L.pkT rfl rfl rfl ?_
              refine L.on rfl rfl ?_
              refine L.pkT rfl rfl rfl ?_
              refine L.pkF rfl rfl rfl ?_
              refine L.nil ?_
              refine T.condT rfl ?_
              refine T.rg ?_
              refine L.as rfl rfl ?_
              refine L.as rfl rfl ?_
              refine L.nil ?_
              refine T.ret ?_
              exact G.ret (res2 Tryz.results46 rfl rfl) ⟨rfl, by rw [show numW s = none from numW_bad (by unfold badW; rw [h30, h34]; simp)]; rfl⟩
            · skip
              refine L.on rfl rfl ?_
              refine L.mv rfl rfl ?_
              refine L.on rfl rfl ?_
              refine L.pkF rfl rfl rfl ?_
              refine L.on rfl rfl ?_
              refine L.pkT rfl rfl rfl ?_
              refine L.pkF rfl rfl rfl ?_
              refine L.nil ?_
              refine T.cond rfl (fun h38 => ?_) (fun h38 => ?_)
              · skip
                refine T.rg ?_
                refine L.as rfl rfl ?_
                refine L.as rfl rfl ?_
                refine L.nil ?_
                refine T.ret ?_
                exact G.ret (res2 Tryz.results46 rfl rfl) ⟨rfl, by rw [show numW s = none from numW_bad (by unfold badW; rw [h30, h38]; simp)]; rfl⟩
              · skip
                refine T.skip ?_
                exact G.cut [(5, aB (signW s)), (4, aS (mkB (digW s)))] ⟨by unfold badW; rw [h16, h21, h26, h30, h34, h38]; rfl, rfl, rfl⟩ (by repeat constructor)
          · skip
            refine L.off rfl rfl rfl rfl ?_
            refine L.off rfl rfl rfl rfl ?_
            refine L.off rfl rfl rfl rfl ?_
            refine L.off rfl rfl rfl rfl ?_
            refine L.offU rfl rfl rfl ?_
            refine L.off rfl rfl rfl rfl ?_
            refine L.on rfl rfl ?_
            refine L.pkF rfl rfl rfl ?_
            refine L.pkF rfl rfl rfl ?_
            refine L.nil ?_
            refine T.condF rfl ?_
            refine T.skip ?_
            exact G.cut [(5, aB (signW s)), (4, aS (mkB (digW s)))] ⟨by unfold badW; rw [h16, h21, h26, h30]; rfl, rfl, rfl⟩ (by repeat constructor)
end Go.Proofs.YtimimkdgofiloaaGreatDoor
