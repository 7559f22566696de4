/- A region that draws, each of whose first operations yields a known value and turns known owned things into known ones. -/
import Derived.Test.YtlibfaghiogekaaQk
namespace Go.Q
open Go

def FlowP (P : Program) (C : Ctx) (n : Nat) (l : List Oper) (m : Nat) (σb : Env) (Ωc : List Ob) (V : List AV) (i : Nat) (o : Oper) (p : List Ob × List Ob) : Prop :=
  ∀ (σ' : Env) (Ωf : List Ob), Sub σ' σb → (∀ j, ancB l.toArray m i j = true → σ'.lookup (dstAt l j) = V[j]?) →
    L P C n l.toArray (Fin C n (fun x post => V[i]? = some x ∧ post = p.2) (dstAt l i) σ' (Ωc ++ Ωf)) [o] σ' (p.1 ++ (Ωc ++ Ωf))

def FlowPs (P : Program) (C : Ctx) (n : Nat) (l : List Oper) (m : Nat) (σb : Env) (Ωc : List Ob) (V : List AV) : Nat → List Oper → List (List Ob × List Ob) → Prop
  | i, o :: r, p :: ps => FlowP P C n l m σb Ωc V i o p ∧ FlowPs P C n l m σb Ωc V (i + 1) r ps
  | _, [], _ => True
  | _, _ :: _, [] => False

section
variable {P : Program} {C : Ctx} {n : Nat} {Q : Pst} {σ : Env} {Ω : List Ob}

theorem FlowPs.flow {l : List Oper} {m : Nat} {σb : Env} {Ωc : List Ob} {V : List AV} {pp : List (List Ob × List Ob)} : ∀ {r : List Oper} {k : Nat} {ps : List (List Ob × List Ob)}, (∀ i, ps[i]? = pp[k + i]?) → FlowPs P C n l m σb Ωc V k r ps →
    FlowOps P C n l m σb Ωc (fun i => (pp[i]?.map (·.1)).getD []) (fun i x _ post => V[i]? = some x ∧ post = (pp[i]?.map (·.2)).getD []) k r
  | [], _, _, _, _ => trivial
  | _ :: _, _, [], _, h => h.elim
  | o :: r, k, p :: ps, hp, ⟨h1, h2⟩ => by
    have h0 := hp 0
    simp at h0
    refine ⟨fun X posts σ' Ωf hs hA => ?_, FlowPs.flow (fun i => by have := hp (i + 1); rw [show k + 1 + i = k + (i + 1) by omega, ← this]; simp) h2⟩
    have := h1 σ' Ωf hs fun j hj => by obtain ⟨h3, h4, _⟩ := hA j hj; rw [h3, h4]
    show L P C n l.toArray (Fin C n (fun x post => V[k]? = some x ∧ post = (pp[k]?.map (·.2)).getD []) _ σ' _) _ _ ((pp[k]?.map (·.1)).getD [] ++ _)
    rw [← h0]
    exact this

theorem flatMap_get {α β : Type} (f : α → List β) : ∀ (l : List α), (List.range l.length).flatMap (fun i => (l[i]?.map f).getD []) = l.flatMap f
  | [] => rfl
  | a :: l => by
    rw [List.length_cons, List.range_succ_eq_map, List.flatMap_cons, List.flatMap_cons, List.flatMap_map]
    simp only [List.getElem?_cons_zero, Option.map_some, Option.getD_some]
    congr 1
    have := flatMap_get f l
    rw [← this]
    congr 1

theorem T.drawP {id : Nat} {l : List Oper} (m : Nat) (σb : Env) (V : List AV) (pp : List (List Ob × List Ob)) (Ωc : List Ob) (hm : P.follows .mixedOrders = true) (hml : Nat.ble m l.length = true) (hV : Nat.beq V.length m = true) (hpp : Nat.beq pp.length m = true) (hf : frontOk l.toArray m σb = true) (ht : tailOk l.toArray m = true) (hsub : Sub σ σb)
    (hΩ : (pp.flatMap (·.1) ++ Ωc).Perm Ω)
    (hops : FlowPs P C n l m σb Ωc V 0 (l.take m) pp)
    (hrest : L P C n l.toArray Q (l.drop m) (frontV (l.take m) V ++ σb) (pp.flatMap (·.2) ++ Ωc)) :
    T P C n Q (.region id l.toArray true) σ Ω := by
  have hml' : m ≤ l.length := by simpa using hml
  have hV' : V.length = m := by simpa using hV
  have hp' : pp.length = m := by simpa using hpp
  refine T.draw m σb Ωc (fun i => (pp[i]?.map (·.1)).getD []) (fun i x _ post => V[i]? = some x ∧ post = (pp[i]?.map (·.2)).getD []) hm hml hf ht hsub ?_ (FlowPs.flow (pp := pp) (fun i => by rw [Nat.zero_add]) hops) fun X posts hR => ?_
  · have := flatMap_get (fun q : List Ob × List Ob => q.1) pp
    rw [hp'] at this
    rw [this]; exact hΩ
  · have h1 : (List.range m).flatMap posts = pp.flatMap (·.2) := by
      rw [← flatMap_get (fun q : List Ob × List Ob => q.2) pp, hp']
      apply flatMap_congr'
      intro i hi
      exact (hR i (by simpa using hi)).2
    rw [h1, frontV_eq (V := V) (by simp; omega) (fun i hi => by
      have := (hR i (by simp at hi; simp; omega)).1
      rw [Nat.zero_add]; exact this)]
    exact hrest

theorem G.finP {V : List AV} {i d : Nat} {σ' : Env} {Ωr : List Ob} {x : AV} {post : List Ob} {Ω : List Ob} (h : V[i]? = some x) (hΩ : Ω = post ++ Ωr) : G C n (Fin C n (fun x p => V[i]? = some x ∧ p = post) d σ' Ωr .normal) ((d, x) :: σ') Ω :=
  G.fin post ⟨h, rfl⟩ hΩ

end
end Go.Q
