/- A slice of data against nil. -/
import Derived.Test.YtlibfaghiogekaaQp
import Derived.Lib.SliceRun
namespace Go.Q
open Go
section
variable {P : Program} {C : Ctx} {n : Nat} {ops : Array Oper} {Q : Pst} {rest : List Oper} {σ : Env} {Ω : List Ob} {d : Nat} {ty : TypeId} {pos : String} {after : Array Edge}

theorem L.eqNil {t u e : TypeId} {x : Operand} {sz : Nat} {es : List (List D)} (hu : P.underlying t = some (.slice e)) (hx : ev σ x = some (aL sz es)) (hdn : Nat.blt d n = true)
    (h : ∀ b, (b = true → es = []) → L P C n ops Q rest ((d, aB b) :: σ) Ω) : L P C n ops Q ({ dst := some d, op := .binOp .eql t x (.const (.slice none 0 0)) u, type := ty, pos, after, guard := none } :: rest) σ Ω := by
  refine L.any rfl rfl hdn fun a w hs ha => ?_
  obtain ⟨v, hv, hr⟩ := ha.val hx
  obtain ⟨A, c, rfl, _, _, hA⟩ := Rc.slice_inv hr
  have hev : a.eval (.const (.slice none 0 0)) = .slice none 0 0 := rfl
  refine ⟨.bool A.isNone, w, aB A.isNone, Ω, ?_, ⟨hs, Step.refl _ _⟩, rB, h _ fun hn => ?_⟩
  · have hr2 := Lib.run_eql_slice_nil (P := P) w t e A es.length c 0 0 hu
    simp [execOp, hv, hev, eqGuard, hr2]
  · cases es with
    | nil => rfl
    | cons e es =>
      obtain ⟨b, o, rfl, _⟩ := hA (by simp)
      cases hn

/-- A row that has elements stands at the head of a block. -/
theorem L.rowV {v : Value} {T : TypeId} {sz : Nat} {es : List (List D)} (i : Nat) (hi : Ω[i]? = some (.row v T sz es)) (hne : 0 < es.length) (h : ∀ g c, v = slV g 0 es.length c → L P C n ops Q rest σ Ω) : L P C n ops Q rest σ Ω := by
  intro a w hs ha
  obtain ⟨us, h1, _, _⟩ := hs.obs _ (List.mem_of_getElem? hi)
  rcases h1.2 with ⟨_, h2⟩ | ⟨g, c, cur, h2, _⟩
  · omega
  · exact h g c h2 a w hs ha

end
end Go.Q
