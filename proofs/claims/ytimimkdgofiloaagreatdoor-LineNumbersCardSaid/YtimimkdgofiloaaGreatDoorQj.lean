/- A region that draws, each of whose first operations yields a known value and leaves what is owned as it is. -/
import Derived.Test.YtimimkdgofiloaaGreatDoorQi
namespace Go.Q
open Go

def frontV : List Oper → List AV → Env
  | o :: r, v :: V => match o.dst with
    | some d => (d, v) :: frontV r V
    | none => frontV r V
  | _, _ => []

def FlowD (P : Program) (C : Ctx) (n : Nat) (l : List Oper) (m : Nat) (σb : Env) (Ωc : List Ob) (V : List AV) (i : Nat) (o : Oper) : Prop :=
  ∀ (σ' : Env) (Ωf : List Ob), Sub σ' σb → (∀ j, ancB l.toArray m i j = true → σ'.lookup (dstAt l j) = V[j]?) →
    L P C n l.toArray (Fin C n (fun x post => V[i]? = some x ∧ post = []) (dstAt l i) σ' (Ωc ++ Ωf)) [o] σ' (Ωc ++ Ωf)

def FlowDs (P : Program) (C : Ctx) (n : Nat) (l : List Oper) (m : Nat) (σb : Env) (Ωc : List Ob) (V : List AV) : Nat → List Oper → Prop
  | _, [] => True
  | i, o :: r => FlowD P C n l m σb Ωc V i o ∧ FlowDs P C n l m σb Ωc V (i + 1) r

section
variable {P : Program} {C : Ctx} {n : Nat} {Q : Pst} {σ : Env} {Ω : List Ob}

theorem FlowDs.flow {l : List Oper} {m : Nat} {σb : Env} {Ωc : List Ob} {V : List AV} : ∀ {r : List Oper} {k : Nat}, FlowDs P C n l m σb Ωc V k r →
    FlowOps P C n l m σb Ωc (fun _ => []) (fun i x _ post => V[i]? = some x ∧ post = []) k r
  | [], _, _ => trivial
  | o :: r, k, ⟨h1, h2⟩ => ⟨fun X posts σ' Ωf hs hA => h1 σ' Ωf hs fun j hj => by obtain ⟨h3, h4, _⟩ := hA j hj; rw [h3, h4], FlowDs.flow h2⟩

theorem frontV_eq : ∀ {l : List Oper} {V : List AV} {k : Nat} {X : Nat → AV}, l.length = V.length → (∀ i, i < l.length → V[i]? = some (X (k + i))) → frontEnv l k X = frontV l V
  | [], [], _, _, _, _ => rfl
  | o :: r, v :: V, k, X, hl, h => by
    have h0 := h 0 (by simp)
    simp at h0
    have ih := frontV_eq (l := r) (V := V) (k := k + 1) (X := X) (by simpa using hl) (fun i hi => by
      have := h (i + 1) (by simpa using hi)
      rw [show k + 1 + i = k + (i + 1) by omega]
      simpa using this)
    subst h0
    simp only [frontEnv, frontV, ih]
    cases o.dst <;> rfl
  | [], _ :: _, _, _, hl, _ => by simp at hl
  | _ :: _, [], _, _, hl, _ => by simp at hl

theorem T.drawD {id : Nat} {l : List Oper} (m : Nat) (σb : Env) (V : List AV) (hm : P.follows .mixedOrders = true) (hml : Nat.ble m l.length = true) (hV : Nat.beq V.length m = true) (hf : frontOk l.toArray m σb = true) (ht : tailOk l.toArray m = true) (hsub : Sub σ σb)
    (hops : FlowDs P C n l m σb Ω V 0 (l.take m))
    (hrest : L P C n l.toArray Q (l.drop m) (frontV (l.take m) V ++ σb) Ω) :
    T P C n Q (.region id l.toArray true) σ Ω := by
  have hml' : m ≤ l.length := by simpa using hml
  have hV' : V.length = m := by simpa using hV
  have hnil : ∀ f : Nat → List Ob, (∀ i, i < m → f i = []) → (List.range m).flatMap f = [] := by
    intro f hf
    rw [List.flatMap_eq_nil_iff]
    intro i hi
    exact hf i (by simpa using hi)
  refine T.draw m σb Ω (fun _ => []) (fun i x _ post => V[i]? = some x ∧ post = []) hm hml hf ht hsub ?_ hops.flow fun X posts hR => ?_
  · rw [hnil _ (fun _ _ => rfl)]; exact List.Perm.refl _
  · rw [hnil posts (fun i hi => (hR i (by simpa using hi)).2), frontV_eq (V := V) (by simp; omega) (fun i hi => by
      have := (hR i (by simp at hi; simp; omega)).1
      rw [Nat.zero_add]; exact this)]
    exact hrest

theorem G.finD {V : List AV} {i d : Nat} {σ' : Env} {Ωr : List Ob} {x : AV} (h : V[i]? = some x) : G C n (Fin C n (fun x post => V[i]? = some x ∧ post = []) d σ' Ωr .normal) ((d, x) :: σ') Ωr :=
  G.fin [] ⟨h, rfl⟩ rfl

end
end Go.Q
namespace Go.Q
open Go
theorem evS_of {σ : Env} {x : Operand} {s : SV} (h : ev σ x = some (.v s)) : evS σ x = some s := by unfold evS; rw [h]
theorem evs1 {σ : Env} {x : Operand} {s : SV} (h : ev σ x = some (.v s)) : evs σ [x] = some [s] := by simp [evs, evS_of h]
theorem evs2 {σ : Env} {x y : Operand} {s t : SV} (h : ev σ x = some (.v s)) (h2 : ev σ y = some (.v t)) : evs σ [x, y] = some [s, t] := by simp [evs, evS_of h, evS_of h2]
theorem evs3 {σ : Env} {x y z : Operand} {s t u : SV} (h : ev σ x = some (.v s)) (h2 : ev σ y = some (.v t)) (h3 : ev σ z = some (.v u)) : evs σ [x, y, z] = some [s, t, u] := by simp [evs, evS_of h, evS_of h2, evS_of h3]
theorem evpC {σ : Env} {x : Operand} {s : SV} {i : Nat} {r : List (Nat × Operand)} {rs : List (Nat × SV)} (h : ev σ x = some (.v s)) (hr : evP σ r = some rs) : evP σ ((i, x) :: r) = some ((i, s) :: rs) := by simp [evP, evS_of h, hr]
theorem evpN {σ : Env} : evP σ [] = some [] := rfl
theorem evp1 {σ : Env} {x : Operand} {s : SV} {i : Nat} (h : ev σ x = some (.v s)) : evP σ [(i, x)] = some [(i, s)] := evpC h evpN
theorem evp2 {σ : Env} {x y : Operand} {s t : SV} {i j : Nat} (h : ev σ x = some (.v s)) (h2 : ev σ y = some (.v t)) : evP σ [(i, x), (j, y)] = some [(i, s), (j, t)] := evpC h (evp1 h2)
end Go.Q
