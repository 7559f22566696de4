/- A region that draws, in which an operation may bear a guard or may panic; else as Qr's. -/
import Derived.Test.YtimimkdgofiloaaGreatDoorQy
namespace Go.Q
open Go

def frontOkG (ops : Array Oper) (m : Nat) (σ : Env) : Bool :=
  (List.range m).all fun i => match ops[i]? with
    | some o => (match o.dst with
      | some d => (σ.all fun p => !Nat.beq p.1 d) && ((List.range m).all fun j => Nat.beq i j || (match ops[j]? with
        | some o' => match o'.dst with
          | some d' => !Nat.beq d d'
          | none => true
        | none => false))
      | none => true) && o.after.toList.all fun e => !Region.binds .any e || Nat.blt e.on i
    | none => false
def dst? (l : List Oper) (i : Nat) : Option Nat := (l[i]?).bind (·.dst)
def putE : Option Nat → AV → Env → Env
  | some d, x, σ => (d, x) :: σ
  | none, _, σ => σ
def lookV? (σ : Env) : Option Nat → Option AV → Prop
  | some d, x => σ.lookup d = x
  | none, _ => True
def lookE (σ : Env) : Option Nat → AV → Prop
  | some d, x => σ.lookup d = some x
  | none, _ => True

/-- One operation: on, or out by a panic. -/
def NX (Q : Pst) (K : Act → World → Prop) : Pst := fun e a w =>
  match e with
  | .normal => K a w
  | .panic ch => Q (.panic ch) a w
  | _ => False
def FinP (Q : Pst) (C : Ctx) (n : Nat) (S : AV → List Ob → Prop) (d : Option Nat) (σ' : Env) (Ωr : List Ob) : Pst := NX Q fun a w => ∃ x post, S x post ∧ St C (post ++ Ωr) w ∧ Has n C.ds (owns (post ++ Ωr) ++ C.X) w a (putE d x σ')

theorem G.finG {Q : Pst} {C : Ctx} {n : Nat} {S : AV → List Ob → Prop} {d : Nat} {σ' : Env} {Ωr Ω : List Ob} {x : AV} (post : List Ob) (hS : S x post) (hΩ : Ω = post ++ Ωr) : G C n (FinP Q C n S (some d) σ' Ωr .normal) ((d, x) :: σ') Ω := by
  subst hΩ
  exact fun a w hs ha => ⟨x, post, hS, hs, ha⟩
theorem G.fin0 {Q : Pst} {C : Ctx} {n : Nat} {S : AV → List Ob → Prop} {σ' : Env} {Ωr Ω : List Ob} {x : AV} (post : List Ob) (hS : S x post) (hΩ : Ω = post ++ Ωr) : G C n (FinP Q C n S none σ' Ωr .normal) σ' Ω := by
  subst hΩ
  exact fun a w hs ha => ⟨x, post, hS, hs, ha⟩

theorem wpOp_nx {P : Program} {C : Ctx} {ops : Array Oper} {Q : Pst} {i : Nat} {o : Oper} {a : Act} {w : World} {K : Act → World → Prop} (hi : ops[i]? = some o)
    (h : wpListIn C.F 0 P ops (NX Q K) [o] a w) : wpOpIn C.F 0 P ops Q i K a w := by
  have hK : ∀ a w, NX Q K .normal a w → K a w := fun _ _ h => h
  have hout : ¬ LetsOut (NX Q K) := by rintro ⟨a, w, h⟩; exact h
  by_cases hw : Region.wanted o (yielded ops a.tmps) = true
  · simp only [wpListIn, hw, if_true] at h
    simp only [wpOpIn, hi, hw, if_true]
    unfold Oper.wpIn at *
    refine ⟨h.1, ?_⟩
    have h := h.2
    generalize (o.semAt C.F.round a.eval).run P w = r at *
    cases r with
    | ok nx w' =>
      cases nx <;> simp only [Oper.uponIn] at h ⊢ <;>
        first
          | exact hK _ _ h
          | exact h.elim
          | exact ⟨h.1, CallsIn.mono h.2 (fun e w'' he => match e, he with
              | .returned _, he => hK _ _ he
              | .panicked _, he => he
              | .outgrown, he => (hout he).elim)⟩
          | exact ⟨h.1, RowsIn.mono h.2 (fun _ _ he => hK _ _ he)⟩
          | exact ⟨h.1, RoundIn.mono h.2 (fun e w'' he => match e, he with
              | .returned _, he => hK _ _ he
              | .panicked _, he => he
              | .outgrown, he => (hout he).elim)⟩
    | halt x w' => cases x <;> simp only [Oper.uponIn] at h ⊢ <;> first | exact (h : False).elim | exact h
  · have hw' : Region.wanted o (yielded ops a.tmps) = false := by simpa using hw
    simp only [wpListIn, hw', Bool.false_eq_true, if_false] at h
    simp only [wpOpIn, hi, hw', Bool.false_eq_true, if_false]
    exact ⟨h.1, hK _ _ h.2⟩

theorem wpOp_finP {P : Program} {C : Ctx} {n : Nat} {ops : Array Oper} {Q : Pst} {i : Nat} {o : Oper} {S : AV → List Ob → Prop} {d' : Option Nat} {σ' : Env} {Ωr : List Ob} {a : Act} {w : World} {K : Act → World → Prop} (hi : ops[i]? = some o)
    (h : wpListIn C.F 0 P ops (FinP Q C n S d' σ' Ωr) [o] a w) (hK : ∀ a w, FinP Q C n S d' σ' Ωr .normal a w → K a w) : wpOpIn C.F 0 P ops Q i K a w :=
  wpOpIn_mono hK (wpOp_nx hi h)

/-- The rest is behind the front, in whatever order. -/
def tailW (ops : Array Oper) (m : Nat) : Bool :=
  (List.range ops.size).all fun k => Nat.blt k m || (List.range m).all fun j => ancB ops ops.size k j

section
variable {P : Program} {C : Ctx} {n : Nat} {ops : Array Oper} {Q : Pst} {σ : Env} {Ω : List Ob}

/-- What is left of a region: in any order. -/
def LA (P : Program) (C : Ctx) (n : Nat) (l : List Oper) (Q : Pst) (fuel : Nat) (listed : Array Bool) (σ : Env) (Ω : List Ob) : Prop :=
  ∀ a w, St C Ω w → Has n C.ds (owns Ω ++ C.X) w a σ → wpAnyIn C.F 0 P .any l.toArray Q fuel listed a w
theorem LA.done {l : List Oper} {listed : Array Bool} (hr : Region.ready .any l.toArray listed = []) (h : G C n (Q .normal) σ Ω) : LA P C n l Q 0 listed σ Ω := fun a w hs ha => ⟨hr, h a w hs ha⟩
theorem LA.one {l : List Oper} {listed l1 : Array Bool} {fuel i : Nat} {o : Oper} (hr : Region.ready .any l.toArray listed = [i]) (ho : l[i]? = some o) (h1 : listed.setIfInBounds i true = l1) (h : L P C n l.toArray (NX Q (wpAnyIn C.F 0 P .any l.toArray Q fuel l1)) [o] σ Ω) : LA P C n l Q (fuel + 1) listed σ Ω := fun a w hs ha => by
  refine ⟨fun e => by rw [hr] at e; simp at e, fun j hj => ?_⟩
  rw [hr] at hj
  obtain rfl := List.mem_singleton.1 hj
  rw [h1]
  exact wpOp_nx (by simpa using ho) (h a w hs ha)
theorem LA.two {l : List Oper} {listed l1 l2 : Array Bool} {fuel i j : Nat} {o o2 : Oper} (hr : Region.ready .any l.toArray listed = [i, j]) (ho : l[i]? = some o) (ho2 : l[j]? = some o2) (h1 : listed.setIfInBounds i true = l1) (h2 : listed.setIfInBounds j true = l2)
    (h : L P C n l.toArray (NX Q (wpAnyIn C.F 0 P .any l.toArray Q fuel l1)) [o] σ Ω) (h' : L P C n l.toArray (NX Q (wpAnyIn C.F 0 P .any l.toArray Q fuel l2)) [o2] σ Ω) : LA P C n l Q (fuel + 1) listed σ Ω := fun a w hs ha => by
  refine ⟨fun e => by rw [hr] at e; simp at e, fun k hk => ?_⟩
  rw [hr] at hk
  rcases List.mem_cons.1 hk with rfl | hk
  · rw [h1]; exact wpOp_nx (by simpa using ho) (h a w hs ha)
  · obtain rfl := List.mem_singleton.1 hk
    rw [h2]; exact wpOp_nx (by simpa using ho2) (h' a w hs ha)

theorem T.flowA {id : Nat} {l : List Oper} (m : Nat) (σb : Env) (Ωc : List Ob) (Pre : Nat → List Ob) (c : Nat → Option Nat) (R : Nat → AV → (Nat → AV) → List Ob → Prop) (hm : P.follows .mixedOrders = true) (hml : Nat.ble m l.length = true) (hf : frontOkG l.toArray m σb = true) (ht : tailW l.toArray m = true) (hsub : Sub σ σb)
    (hΩ : ((List.range m).flatMap Pre ++ Ωc).Perm Ω) (hcm : ∀ i j, i < m → c i = some j → j < m ∧ ancB l.toArray m i j = true) (hcu : ∀ i i' j, i < m → i' < m → c i = some j → c i' = some j → i = i')
    (hops : ∀ i, Nat.blt i m = true → ∀ (o : Oper) (X : Nat → AV) (posts : Nat → List Ob) (σ' : Env) (Ωf : List Ob), l[i]? = some o → Sub σ' σb →
      (∀ j, ancB l.toArray m i j = true → lookE σ' (dst? l j) (X j) ∧ R j (X j) (mask l.toArray m j X) (posts j)) →
      L P C n l.toArray (FinP Q C n (fun x post => R i x (mask l.toArray m i X) post) (dst? l i) σ' (Ωc ++ Ωf)) [o] σ' (useC c posts i ++ (Pre i ++ (Ωc ++ Ωf))))
    (hrest : ∀ (X : Nat → AV) (posts : Nat → List Ob), (∀ i, i < m → R i (X i) (mask l.toArray m i X) (posts i)) → ∀ listed : Array Bool, listed.size = l.length → Closed l.toArray listed → (∀ i, Ld listed i ↔ i < m) → LA P C n l Q (l.length - m) listed (frontEnv (l.take m) 0 X ++ σb) ((List.range m).flatMap (leftC m c posts) ++ Ωc)) :
    T P C n Q (.region id l.toArray true) σ Ω := by
  have hml' : m ≤ l.length := by simpa using hml
  intro a w hs ha
  obtain ⟨hs, hst0⟩ := hs.perm hΩ.symm
  have ha := ha.step hst0
  obtain ⟨hs, hst⟩ := hs.drew
  have ha := ha.step hst
  refine wpIn_region_any hm ?_
  rw [show ({ w with drawn := w.drawn + 1 } : World) = w.drew from rfl]
  -- the checks
  have hfront : ∀ (i : Nat), i < m → ∃ o, l[i]? = some o ∧ (∀ d, o.dst = some d → (∀ p ∈ σb, p.1 ≠ d) ∧ ∀ j o' d', j < m → j ≠ i → l[j]? = some o' → o'.dst = some d' → d' ≠ d) ∧ ∀ e ∈ o.after, Region.binds .any e = true → e.on < i := by
    intro i hi
    unfold frontOkG at hf
    rw [List.all_eq_true] at hf
    have h1 := hf i (by simpa using hi)
    simp only [List.getElem?_toArray] at h1
    cases ho : l[i]? with
    | none => simp [ho] at h1
    | some o =>
      simp only [ho, Bool.and_eq_true] at h1
      obtain ⟨h2, h5⟩ := h1
      refine ⟨o, rfl, fun d hd => ?_, fun e he hb => ?_⟩
      · simp only [hd, Bool.and_eq_true] at h2
        obtain ⟨h3, h4⟩ := h2
        refine ⟨fun p hp => ?_, fun j o' d' hj hji ho' hd' => ?_⟩
        · rw [List.all_eq_true] at h3
          have := h3 p hp
          exact nbeq (by simpa only [Bool.not_eq_true'] using this)
        · rw [List.all_eq_true] at h4
          have := h4 j (by simpa using hj)
          simp only [ho', hd', Bool.or_eq_true, Bool.not_eq_true'] at this
          rcases this with h6 | h6
          · exact absurd (by simpa using h6 : i = j).symm hji
          · exact fun e => nbeq h6 e.symm
      · rw [List.all_eq_true] at h5
        have := h5 e (by simpa using he)
        simp [hb] at this
        exact this
  have htail : ∀ (i : Nat) (o : Oper), m ≤ i → l[i]? = some o → ∀ j, j < m → ancB l.toArray l.length i j = true := by
    intro i o hi ho j hj
    unfold tailW at ht
    rw [List.all_eq_true] at ht
    have hil : i < l.length := (List.getElem?_eq_some_iff.1 ho).1
    have h1 := ht i (by simpa using hil)
    simp only [Bool.or_eq_true, List.size_toArray] at h1
    rcases h1 with h1 | h1
    · have : i < m := by simpa using h1
      omega
    · rw [List.all_eq_true] at h1
      exact h1 j (by simpa using hj)
  -- the invariant
  have key : ∀ (fuel : Nat) (listed : Array Bool) (a : Act) (w : World) (X : Nat → AV) (posts cur : Nat → List Ob), listed.size = l.length → Closed l.toArray listed → (∀ i, Ld listed i → i < m) →
      ((List.range l.length).filter fun i => !listed.getD i false).length = fuel →
      (∀ i, i < m → Ld listed i → R i (X i) (mask l.toArray m i X) (posts i)) → CurC m listed c Pre posts cur → St C ((List.range m).flatMap cur ++ Ωc) w →
      (∃ σ', Has n C.ds (owns ((List.range m).flatMap cur ++ Ωc) ++ C.X) w a σ' ∧ Sub σ' σb ∧ ∀ i o d, i < m → Ld listed i → l[i]? = some o → o.dst = some d → σ'.lookup d = some (X i)) →
      wpAnyIn C.F 0 P .any l.toArray Q fuel listed a w := by
    intro fuel
    induction fuel with
    | zero =>
      intro listed a w X posts cur hsz hc hlm hfu hR hcur hs hσ
      -- all has come up: so the front is all
      have hall : ∀ i, i < l.length → Ld listed i := by
        intro i hi
        have h1 : (List.range l.length).filter (fun i => !listed.getD i false) = [] := List.eq_nil_of_length_eq_zero hfu
        rw [List.filter_eq_nil_iff] at h1
        have := h1 i (by simpa using hi)
        unfold Ld
        simpa using this
      have hmm : m = l.length := by
        rcases Nat.lt_or_ge m l.length with h1 | h1
        · have := hlm m (hall m h1); omega
        · omega
      obtain ⟨σ', hH, hsb, hget⟩ := hσ
      have hown : (List.range m).flatMap cur = (List.range m).flatMap (leftC m c posts) := flatMap_congr' fun i hi => hcur.done (fun k hk => hall k (by omega)) (List.mem_range.1 hi)
      rw [hown] at hs hH
      have hL := hrest X posts (fun i hi => hR i hi (hall i (by omega))) listed hsz hc (fun i => ⟨fun h => hlm i h, fun h => hall i (by omega)⟩)
      rw [show l.length - m = 0 by omega] at hL
      refine hL a w hs ⟨hH.size, hH.defers, fun d x hx => ?_⟩
      rcases lookup_append hx with h1 | h1
      · obtain ⟨i, o, h2, h3, rfl⟩ := frontEnv_get h1
        have hil : i < l.length := by
          have := (List.getElem?_eq_some_iff.1 h2).1
          rw [List.length_take] at this; omega
        have h2' : l[i]? = some o := by
          rw [List.getElem?_take, if_pos (by omega)] at h2
          exact h2
        exact hH.get d _ (by rw [Nat.zero_add]; exact hget i o d (by omega) (hall i hil) h2' h3)
      · exact hH.get d x (hsb.get h1)
    | succ fuel ih =>
      intro listed a w X posts cur hsz hc hlm hfu hR hcur hs hσ
      by_cases hallm : ∀ i, i < m → Ld listed i
      · -- the tail
        obtain ⟨σ', hH, hsb, hget⟩ := hσ
        have hown : (List.range m).flatMap cur = (List.range m).flatMap (leftC m c posts) := flatMap_congr' fun i hi => hcur.done (fun k hk => hallm k hk) (List.mem_range.1 hi)
        rw [hown] at hs hH
        have hL := hrest X posts (fun i hi => hR i hi (hallm i hi)) listed hsz hc (fun i => ⟨fun h => hlm i h, fun h => hallm i h⟩)
        have hlen : (l.drop m).length = fuel + 1 := by
          rw [← hfu]
          have h1 : (List.range l.length).filter (fun i => !listed.getD i false) = (List.range l.length).filter (fun i => decide (m ≤ i)) := by
            apply List.filter_congr
            intro i hi
            by_cases him : i < m
            · have : listed.getD i false = true := hallm i him
              rw [this]; simp; omega
            · have : ¬ listed.getD i false = true := fun h => him (hlm i h)
              simp at this
              simp [this]; omega
          rw [h1]
          have h2 : List.range l.length = List.range m ++ List.range' m (l.length - m) := by
            rw [List.range_eq_range', List.range_eq_range']
            have : l.length = m + (l.length - m) := by omega
            conv => lhs; rw [this]
            rw [← List.range'_append_1]; simp
          rw [h2, List.filter_append, List.filter_eq_nil_iff.2, List.filter_eq_self.2]
          · simp
          · intro i hi; have := List.mem_range'.1 hi; simp; omega
          · intro i hi; have := List.mem_range.1 hi; simp; omega
        rw [List.length_drop] at hlen
        rw [hlen] at hL
        refine hL a w hs ⟨hH.size, hH.defers, fun d x hx => ?_⟩
        rcases lookup_append hx with h1 | h1
        · obtain ⟨i, o, h2, h3, rfl⟩ := frontEnv_get h1
          have him : i < m := by
            have := (List.getElem?_eq_some_iff.1 h2).1
            rw [List.length_take] at this; omega
          have h2' : l[i]? = some o := by
            rw [List.getElem?_take, if_pos (by omega)] at h2
            exact h2
          exact hH.get d _ (by rw [Nat.zero_add]; exact hget i o d him (hallm i him) h2' h3)
        · exact hH.get d x (hsb.get h1)
      · -- one of the front
        have hready : ∀ j, j ∈ Region.ready .any l.toArray listed → j < m ∧ ¬ Ld listed j ∧ ∃ o, l[j]? = some o ∧ ∀ e ∈ o.after, Region.binds .any e = true → Ld listed e.on := by
          intro j hj
          rw [mem_ready] at hj
          obtain ⟨h0, o, ho, hall⟩ := hj
          have hjl : j < l.length := by
            have := (Array.getElem?_eq_some_iff.1 ho).1
            simpa using this
          have hnl : ¬ Ld listed j := by
            intro h1
            unfold Ld at h1
            have hjs : j < listed.size := by omega
            simp [hjs] at h0 h1
            rw [h0] at h1
            simp at h1
          refine ⟨?_, hnl, o, by simpa using ho, hall⟩
          rcases Nat.lt_or_ge j m with h1 | h1
          · exact h1
          · exfalso
            apply hallm
            intro i hi
            have := htail j o h1 (by simpa using ho) i hi
            exact hc.anc l.length j i this (fun o' ho' e he hb => by
              rw [ho] at ho'
              simp at ho'
              subst ho'
              exact hall e he hb)
        refine ⟨fun h0 => ?_, fun i hi => ?_⟩
        · -- there is a least one that has not come up: it is ready
          exfalso
          have hex : ∃ i, i < m ∧ ¬ Ld listed i := by
            rcases Classical.not_forall.1 hallm with ⟨i, hi⟩
            rcases Classical.not_imp.1 hi with ⟨h1, h2⟩
            exact ⟨i, h1, h2⟩
          obtain ⟨i, ⟨him, hnl⟩, hmin⟩ := exists_least (p := fun i => i < m ∧ ¬ Ld listed i) hex
          obtain ⟨o, ho, _, hlt⟩ := hfront i him
          have : i ∈ Region.ready .any l.toArray listed := by
            rw [mem_ready]
            refine ⟨?_, o, by simpa using ho, fun e he hb => ?_⟩
            · unfold Ld at hnl
              have hjs : i < listed.size := by omega
              simp [hjs] at hnl ⊢
              exact hnl
            · have h1 := hlt e he hb
              by_cases h2 : Ld listed e.on
              · exact h2
              · have := hmin e.on ⟨by omega, h2⟩
                omega
          rw [h0] at this
          simp at this
        · obtain ⟨him, hnl, o, ho, hall⟩ := hready i hi
          obtain ⟨o', ho', hdd, hlt⟩ := hfront i him
          rw [ho] at ho'
          simp at ho'
          subst ho'
          obtain ⟨σ', hH, hsb, hget⟩ := hσ
          obtain ⟨A, hA, hAB⟩ := hcur.turn him hnl hcu (fun j hj => ⟨(hcm i j him hj).1, hc.anc m i j (hcm i j him hj).2 (fun o' ho' e he hb => by
            have ho2 : l[i]? = some o' := by simpa using ho'
            rw [ho] at ho2
            simp at ho2
            subst ho2
            exact hall e he hb)⟩) (fun k j hk hkl hkc => hc.anc m k j (hcm k j hk hkc).2 fun o' ho' e he hb => hc k o' ho' hkl e he hb)
          have hp : ((List.range m).flatMap cur ++ Ωc).Perm (useC c posts i ++ (Pre i ++ (Ωc ++ A))) := by
            refine (hA.append_right Ωc).trans ?_
            rw [List.append_assoc, List.append_assoc]
            exact (List.perm_append_comm.append_left _).append_left _
          obtain ⟨hs1, hst1⟩ := hs.perm hp
          have hanc : ∀ j, ancB l.toArray m i j = true → Ld listed j := fun j hj => hc.anc m i j hj (fun o' ho' e he hb => by
            have ho2 : l[i]? = some o' := by simpa using ho'
            rw [ho] at ho2
            simp at ho2
            subst ho2
            exact hall e he hb)
          have hdi : dst? l i = o.dst := by simp [dst?, ho]
          have hL := hops i (by simpa using him) o X posts σ' A ho hsb (fun j hj => by
            have hl := hanc j hj
            have hjm := hlm j hl
            obtain ⟨oj, hoj, _⟩ := hfront j hjm
            refine ⟨?_, hR j hjm hl⟩
            have hdj : dst? l j = oj.dst := by simp [dst?, hoj]
            rw [hdj]
            cases hdd : oj.dst with
            | none => trivial
            | some dj => exact hget j oj dj hjm hl hoj hdd) a w hs1 (hH.step hst1)
          refine wpOp_finP (o := o) (by simpa using ho) hL ?_
          rintro a' w' ⟨x, post, hRx, hs2, hH2⟩
          obtain ⟨cur', hcur', hpc⟩ := hAB post
          have hp2 : (post ++ (Ωc ++ A)).Perm ((List.range m).flatMap cur' ++ Ωc) := by
            refine List.Perm.trans ?_ (hpc.symm.append_right Ωc)
            rw [List.append_assoc]
            exact List.perm_append_comm.append_left _
          obtain ⟨hs3, hst3⟩ := hs2.perm hp2
          have hmask : ∀ j, j < m → (Ld listed j ∨ j = i) → mask l.toArray m j (fun k => if k = i then x else X k) = mask l.toArray m j X := by
            intro j hj hlj
            funext k
            unfold mask
            split
            · rename_i hk
              have hki : k ≠ i := by
                intro e
                subst e
                -- k = i is an ancestor of j; j is listed (or is i itself)
                have hlk : Ld listed k := by
                  rcases hlj with h1 | h1
                  · exact hc.anc m j k hk (fun o' ho' e he hb => hc j o' ho' h1 e he hb)
                  · subst h1; exact hanc _ hk
                exact hnl hlk
              simp [hki]
            · rfl
          refine ih (listed.setIfInBounds i true) a' w' (fun k => if k = i then x else X k) (fun j => if j = i then post else posts j) cur' (by simpa using hsz) (hc.set (o := o) (by simpa using ho) (by omega) hall) (fun j hj => ?_) ?_ (fun j hj hlj => ?_) (hcur' (by omega)) hs3 ⟨putE (dst? l i) x σ', hH2.step hst3, ?_, fun j oj dj hj hlj hoj hdj => ?_⟩
          · rcases (Ld.set (by omega)).1 hj with rfl | h1
            · exact him
            · exact hlm j h1
          · exact filter_set (by omega) (by omega) hnl hfu
          · rcases (Ld.set (by omega)).1 hlj with rfl | h1
            · rw [hmask j hj (.inr rfl)]; simpa using hRx
            · have hne : j ≠ i := fun e => hnl (e ▸ h1)
              rw [hmask j hj (.inl h1)]
              simpa [hne] using hR j hj h1
          · rw [hdi]
            cases hd : o.dst with
            | none => exact hsb
            | some d => exact hsb.put (hdd d hd).1
          · by_cases hji : j = i
            · subst hji
              rw [ho] at hoj
              simp at hoj
              subst hoj
              rw [hdi, hdj]
              simp [putE, List.lookup]
            · simp only [hji, if_false]
              have hgo : σ'.lookup dj = some (X j) := by
                rcases (Ld.set (by omega)).1 hlj with h1 | h1
                · exact absurd h1 hji
                · exact hget j oj dj hj h1 hoj hdj
              rw [hdi]
              cases hd : o.dst with
              | none => exact hgo
              | some d =>
                have hne := (hdd d hd).2 j oj dj hj hji hoj hdj
                have hb : (dj == d) = false := by simpa using hne
                simp only [putE, List.lookup, hb]
                exact hgo
  have hL0 : ∀ i, ¬ Ld (Array.replicate l.length false) i := by
    intro i h
    unfold Ld at h
    rw [Array.getD_eq_getD_getElem?, Array.getElem?_replicate] at h
    split at h <;> simp at h
  have hcur0 : CurC m (Array.replicate l.length false) c Pre (fun _ => []) Pre := ⟨fun i _ _ => rfl, fun i _ h => absurd h (hL0 i), fun i _ k _ h => absurd h (hL0 k)⟩
  refine key l.length (Array.replicate l.length false) a w.drew (fun _ => .t []) (fun _ => []) Pre (by simp) (fun i o _ h => absurd h (hL0 i)) (fun i h => absurd h (hL0 i)) ?_ (fun i _ h => absurd h (hL0 i)) hcur0 hs ⟨σ, ha, hsub, fun i _ _ _ h => absurd h (hL0 i)⟩
  · rw [List.filter_eq_self.2]
    · simp
    · intro i hi
      have : ¬ (Array.replicate l.length false).getD i false = true := hL0 i
      simpa using this

theorem T.flowG {id : Nat} {l : List Oper} (m : Nat) (σb : Env) (Ωc : List Ob) (Pre : Nat → List Ob) (c : Nat → Option Nat) (R : Nat → AV → (Nat → AV) → List Ob → Prop) (hm : P.follows .mixedOrders = true) (hml : Nat.ble m l.length = true) (hf : frontOkG l.toArray m σb = true) (ht : tailOk l.toArray m = true) (hsub : Sub σ σb)
    (hΩ : ((List.range m).flatMap Pre ++ Ωc).Perm Ω) (hcm : ∀ i j, i < m → c i = some j → j < m ∧ ancB l.toArray m i j = true) (hcu : ∀ i i' j, i < m → i' < m → c i = some j → c i' = some j → i = i')
    (hops : ∀ i, Nat.blt i m = true → ∀ (o : Oper) (X : Nat → AV) (posts : Nat → List Ob) (σ' : Env) (Ωf : List Ob), l[i]? = some o → Sub σ' σb →
      (∀ j, ancB l.toArray m i j = true → lookE σ' (dst? l j) (X j) ∧ R j (X j) (mask l.toArray m j X) (posts j)) →
      L P C n l.toArray (FinP Q C n (fun x post => R i x (mask l.toArray m i X) post) (dst? l i) σ' (Ωc ++ Ωf)) [o] σ' (useC c posts i ++ (Pre i ++ (Ωc ++ Ωf))))
    (hrest : ∀ (X : Nat → AV) (posts : Nat → List Ob), (∀ i, i < m → R i (X i) (mask l.toArray m i X) (posts i)) → L P C n l.toArray Q (l.drop m) (frontEnv (l.take m) 0 X ++ σb) ((List.range m).flatMap (leftC m c posts) ++ Ωc)) :
    T P C n Q (.region id l.toArray true) σ Ω := by
  refine T.flowA m σb Ωc Pre c R hm hml hf ?_ hsub hΩ hcm hcu hops fun X posts hR listed hsz hc hlm a w hs hH => ?_
  · unfold tailW
    rw [List.all_eq_true]
    intro k hk
    unfold tailOk at ht
    rw [List.all_eq_true] at ht
    have h1 := ht k hk
    rw [Bool.or_eq_true] at h1 ⊢
    rcases h1 with h1 | h1
    · exact .inl h1
    · rw [Bool.and_eq_true] at h1
      rcases Nat.lt_or_ge k m with h2 | h2
      · exact .inl (by simpa using h2)
      · refine .inr ?_
        rw [List.all_eq_true]
        intro j hj
        have h3 := h1.1
        rw [List.all_eq_true] at h3
        exact h3 j (by have := List.mem_range.1 hj; simp; omega)
  · rw [show l.length - m = (l.drop m).length by rw [List.length_drop]]
    refine tail_any C (l.drop m) m listed a w rfl (fun i _ => hlm i) hsz (fun i o hi ho => ?_) hc (hrest X posts hR a w hs hH)
    unfold tailOk at ht
    rw [List.all_eq_true] at ht
    have hil : i < l.length := (List.getElem?_eq_some_iff.1 ho).1
    have h1 := ht i (by simpa using hil)
    simp only [List.getElem?_toArray, ho, Bool.or_eq_true, Bool.and_eq_true, List.size_toArray] at h1
    rcases h1 with h1 | ⟨h1, h2⟩
    · have : i < m := by simpa using h1
      omega
    · refine ⟨fun j hj => ?_, fun e he hb => ?_⟩
      · rw [List.all_eq_true] at h1
        exact h1 j (by simpa using hj)
      · rw [List.all_eq_true] at h2
        have := h2 e (by simpa using he)
        simp [hb] at this
        exact this
end

/-- One operation by itself; what it uses up stands ahead. -/
def FlowOpG (P : Program) (C : Ctx) (n : Nat) (Q : Pst) (l : List Oper) (m : Nat) (σb : Env) (Ωc : List Ob) (Pre : Nat → List Ob) (c : Nat → Option Nat) (R : Nat → AV → (Nat → AV) → List Ob → Prop) (i : Nat) (o : Oper) : Prop :=
  ∀ (X : Nat → AV) (posts : Nat → List Ob) (σ' : Env) (Ωf : List Ob), Sub σ' σb →
    (∀ j, ancB l.toArray m i j = true → lookE σ' (dst? l j) (X j) ∧ R j (X j) (mask l.toArray m j X) (posts j)) →
    L P C n l.toArray (FinP Q C n (fun x post => R i x (mask l.toArray m i X) post) (dst? l i) σ' (Ωc ++ Ωf)) [o] σ' (useC c posts i ++ (Pre i ++ (Ωc ++ Ωf)))

def FlowOpsG (P : Program) (C : Ctx) (n : Nat) (Q : Pst) (l : List Oper) (m : Nat) (σb : Env) (Ωc : List Ob) (Pre : Nat → List Ob) (c : Nat → Option Nat) (R : Nat → AV → (Nat → AV) → List Ob → Prop) : Nat → List Oper → Prop
  | _, [] => True
  | i, o :: r => FlowOpG P C n Q l m σb Ωc Pre c R i o ∧ FlowOpsG P C n Q l m σb Ωc Pre c R (i + 1) r

theorem FlowOpsG.get {P : Program} {C : Ctx} {n : Nat} {Q : Pst} {l : List Oper} {m : Nat} {σb : Env} {Ωc : List Ob} {Pre : Nat → List Ob} {c : Nat → Option Nat} {R : Nat → AV → (Nat → AV) → List Ob → Prop} : ∀ {r : List Oper} {k : Nat}, FlowOpsG P C n Q l m σb Ωc Pre c R k r → ∀ (i : Nat) (o : Oper), r[i]? = some o → FlowOpG P C n Q l m σb Ωc Pre c R (k + i) o
  | [], _, _, i, o, h => by simp at h
  | a :: r, k, ⟨h1, _⟩, 0, o, h => by simp at h; subst h; exact h1
  | a :: r, k, ⟨_, h2⟩, i + 1, o, h => by
    have := h2.get i o (by simpa using h)
    rwa [show k + 1 + i = k + (i + 1) by omega] at this

theorem T.drawG {P : Program} {C : Ctx} {n : Nat} {Q : Pst} {σ : Env} {Ω : List Ob} {id : Nat} {l : List Oper} (m : Nat) (σb : Env) (Ωc : List Ob) (Pre : Nat → List Ob) (cl : List (Option Nat)) (R : Nat → AV → (Nat → AV) → List Ob → Prop) (hm : P.follows .mixedOrders = true) (hml : Nat.ble m l.length = true) (hf : frontOkG l.toArray m σb = true) (ht : tailOk l.toArray m = true) (hsub : Sub σ σb)
    (hΩ : ((List.range m).flatMap Pre ++ Ωc).Perm Ω) (hu : useOk l.toArray m cl = true)
    (hops : FlowOpsG P C n Q l m σb Ωc Pre (fun i => cl.getD i none) R 0 (l.take m))
    (hrest : ∀ (X : Nat → AV) (posts : Nat → List Ob), (∀ i, Nat.blt i m = true → R i (X i) (mask l.toArray m i X) (posts i)) → L P C n l.toArray Q (l.drop m) (frontEnv (l.take m) 0 X ++ σb) ((List.range m).flatMap (leftC m (fun i => cl.getD i none) posts) ++ Ωc)) :
    T P C n Q (.region id l.toArray true) σ Ω := by
  obtain ⟨hu1, hu2⟩ := useOk_spec hu
  refine T.flowG m σb Ωc Pre (fun i => cl.getD i none) R hm hml hf ht hsub hΩ hu1 hu2 (fun i hi o X posts σ' Ωf ho hs hA => ?_) fun X posts h => hrest X posts fun i hi => h i (bltLt hi)
  have hi' := bltLt hi
  have h1 := hops.get i o (by rw [List.getElem?_take, if_pos hi']; exact ho)
  rw [Nat.zero_add] at h1
  exact h1 X posts σ' Ωf hs hA

theorem T.drawA {P : Program} {C : Ctx} {n : Nat} {Q : Pst} {σ : Env} {Ω : List Ob} {id : Nat} {l : List Oper} (m : Nat) (σb : Env) (Ωc : List Ob) (Pre : Nat → List Ob) (cl : List (Option Nat)) (R : Nat → AV → (Nat → AV) → List Ob → Prop) (hm : P.follows .mixedOrders = true) (hml : Nat.ble m l.length = true) (hf : frontOkG l.toArray m σb = true) (ht : tailW l.toArray m = true) (hsub : Sub σ σb)
    (hΩ : ((List.range m).flatMap Pre ++ Ωc).Perm Ω) (hu : useOk l.toArray m cl = true)
    (hops : FlowOpsG P C n Q l m σb Ωc Pre (fun i => cl.getD i none) R 0 (l.take m))
    (hrest : ∀ (X : Nat → AV) (posts : Nat → List Ob), (∀ i, Nat.blt i m = true → R i (X i) (mask l.toArray m i X) (posts i)) → LA P C n l Q (l.length - m) ((List.range l.length).map fun i => Nat.blt i m).toArray (frontEnv (l.take m) 0 X ++ σb) ((List.range m).flatMap (leftC m (fun i => cl.getD i none) posts) ++ Ωc)) :
    T P C n Q (.region id l.toArray true) σ Ω := by
  obtain ⟨hu1, hu2⟩ := useOk_spec hu
  refine T.flowA m σb Ωc Pre (fun i => cl.getD i none) R hm hml hf ht hsub hΩ hu1 hu2 (fun i hi o X posts σ' Ωf ho hs hA => ?_) fun X posts h listed hsz _ hl => ?_
  have hi' := bltLt hi
  have h1 := hops.get i o (by rw [List.getElem?_take, if_pos hi']; exact ho)
  rw [Nat.zero_add] at h1
  · exact h1 X posts σ' Ωf hs hA
  have he : listed = ((List.range l.length).map fun i => Nat.blt i m).toArray := by
    apply Array.ext
    · simp [hsz]
    · intro i h1 h2
      have h3 := hl i
      unfold Ld at h3
      rw [Array.getD_eq_getD_getElem?, Array.getElem?_eq_getElem h1] at h3
      simp only [Option.getD_some] at h3
      cases hb : listed[i] with
      | true => have := h3.1 hb; simp [this]
      | false =>
        have h4 : ¬ i < m := fun h => by
          have h5 := h3.2 h
          rw [hb] at h5
          cases h5
        have h6 : Nat.blt i m = false := by
          cases h7 : Nat.blt i m with
          | true => exact absurd (bltLt h7) h4
          | false => rfl
        simp [h6]
  rw [he]
  exact hrest X posts fun i hi => h i (bltLt hi)

/-- Where each of the first operations yields a known value and leaves what is owned as it is. -/
theorem FlowOpsG.ofD {P : Program} {C : Ctx} {n : Nat} {Q : Pst} {l : List Oper} {m : Nat} {σb : Env} {Ωc : List Ob} {V : List AV} (h : ∀ (i : Nat) (o : Oper), l[i]? = some o → Nat.blt i m = true → ∀ (σ' : Env) (Ωf : List Ob), Sub σ' σb → (∀ j, ancB l.toArray m i j = true → lookV? σ' (dst? l j) V[j]?) →
    L P C n l.toArray (FinP Q C n (fun x post => V[i]? = some x ∧ post = []) (dst? l i) σ' (Ωc ++ Ωf)) [o] σ' (Ωc ++ Ωf)) :
    ∀ (r : List Oper) (k : Nat), (∀ i o, r[i]? = some o → l[k + i]? = some o ∧ Nat.blt (k + i) m = true) → FlowOpsG P C n Q l m σb Ωc (fun _ => []) (fun i => ([] : List (Option Nat)).getD i none) (fun i x _ post => V[i]? = some x ∧ post = []) k r
  | [], _, _ => trivial
  | o :: r, k, hr => ⟨fun X posts σ' Ωf hs hA => h k o (hr 0 o rfl).1 (hr 0 o rfl).2 σ' Ωf hs fun j hj => by
      obtain ⟨h3, h4, _⟩ := hA j hj
      rw [h4]
      cases hd : dst? l j with
      | none => trivial
      | some d => rw [hd] at h3; exact h3,
      FlowOpsG.ofD h r (k + 1) fun i o' ho' => by have := hr (i + 1) o' (by simpa using ho'); rwa [show k + 1 + i = k + (i + 1) by omega]⟩
def FlowG (P : Program) (C : Ctx) (n : Nat) (Q : Pst) (l : List Oper) (m : Nat) (σb : Env) (Ωc : List Ob) (V : List AV) (i : Nat) (o : Oper) : Prop :=
  ∀ (σ' : Env) (Ωf : List Ob), Sub σ' σb → (∀ j, ancB l.toArray m i j = true → lookV? σ' (dst? l j) V[j]?) →
    L P C n l.toArray (FinP Q C n (fun x post => V[i]? = some x ∧ post = []) (dst? l i) σ' (Ωc ++ Ωf)) [o] σ' (Ωc ++ Ωf)
def FlowGs (P : Program) (C : Ctx) (n : Nat) (Q : Pst) (l : List Oper) (m : Nat) (σb : Env) (Ωc : List Ob) (V : List AV) : Nat → List Oper → Prop
  | _, [] => True
  | i, o :: r => FlowG P C n Q l m σb Ωc V i o ∧ FlowGs P C n Q l m σb Ωc V (i + 1) r
theorem FlowGs.get {P : Program} {C : Ctx} {n : Nat} {Q : Pst} {l : List Oper} {m : Nat} {σb : Env} {Ωc : List Ob} {V : List AV} : ∀ {r : List Oper} {k : Nat}, FlowGs P C n Q l m σb Ωc V k r → ∀ (i : Nat) (o : Oper), r[i]? = some o → FlowG P C n Q l m σb Ωc V (k + i) o
  | [], _, _, i, o, h => by simp at h
  | a :: r, k, ⟨h1, _⟩, 0, o, h => by simp at h; subst h; exact h1
  | a :: r, k, ⟨_, h2⟩, i + 1, o, h => by
    have := h2.get i o (by simpa using h)
    rwa [show k + 1 + i = k + (i + 1) by omega] at this

theorem T.drawGD {P : Program} {C : Ctx} {n : Nat} {Q : Pst} {σ : Env} {Ω : List Ob} {id : Nat} {l : List Oper} (m : Nat) (σb : Env) (V : List AV) (hm : P.follows .mixedOrders = true) (hml : Nat.ble m l.length = true) (hV : Nat.beq V.length m = true) (hf : frontOkG l.toArray m σb = true) (ht : tailOk l.toArray m = true) (hsub : Sub σ σb)
    (hops : FlowGs P C n Q l m σb Ω V 0 (l.take m))
    (hrest : L P C n l.toArray Q (l.drop m) (frontV (l.take m) V ++ σb) Ω) :
    T P C n Q (.region id l.toArray true) σ Ω := by
  have hml' : m ≤ l.length := by simpa using hml
  have hV' : V.length = m := by simpa using hV
  have hnil : ∀ f : Nat → List Ob, (∀ i, i < m → f i = []) → (List.range m).flatMap f = [] := by
    intro f hf
    rw [List.flatMap_eq_nil_iff]
    intro i hi
    exact hf i (by simpa using hi)
  refine T.drawG m σb Ω (fun _ => []) [] (fun i x _ post => V[i]? = some x ∧ post = []) hm hml hf ht hsub ?_ ?_ (FlowOpsG.ofD (V := V) (fun i o ho hi => ?_) _ _ fun i o ho => ?_) fun X posts hR => ?_
  · rw [hnil _ (fun _ _ => rfl)]; exact List.Perm.refl _
  · unfold useOk; rw [List.all_eq_true]; intro i hi; rfl
  · have hi' := bltLt hi
    have := hops.get i o (by rw [List.getElem?_take, if_pos hi']; exact ho)
    rw [Nat.zero_add] at this; exact this
  · rw [Nat.zero_add]
    rw [List.getElem?_take] at ho
    split at ho
    · rename_i h; exact ⟨ho, by simpa using h⟩
    · simp at ho
  · have hl : (List.range m).flatMap (leftC m (fun i => ([] : List (Option Nat)).getD i none) posts) = [] := hnil _ fun i hi => by
      unfold leftC; split
      · rfl
      · exact (hR i (by simpa using hi)).2
    rw [hl, frontV_eq (V := V) (by simp; omega) (fun i hi => by
      have := (hR i (by simp at hi; simp; omega)).1
      rw [Nat.zero_add]; exact this)]
    exact hrest
theorem G.finGD {Q : Pst} {C : Ctx} {n : Nat} {V : List AV} {i d : Nat} {σ' : Env} {Ωr : List Ob} {x : AV} (h : V[i]? = some x) : G C n (FinP Q C n (fun x post => V[i]? = some x ∧ post = []) (some d) σ' Ωr .normal) ((d, x) :: σ') Ωr :=
  G.finG [] ⟨h, rfl⟩ rfl
end Go.Q
