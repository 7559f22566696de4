/- A region that draws its order: each operation by itself, whatever has come up before it. -/
import Derived.Test.YtimimkdgofiloaaGreatDoorQg
namespace Go.Q
open Go

/-- Does operation i wait for operation j, directly or through others? -/
def ancB (ops : Array Oper) : Nat → Nat → Nat → Bool
  | 0, _, _ => false
  | f + 1, i, j => match ops[i]? with
    | some o => o.after.toList.any fun e => Region.binds .any e && (Nat.beq e.on j || ancB ops f e.on j)
    | none => false

/-- Direct waits of an operation are among the first k. -/
def readsOf (o : Oper) : List Nat := o.op.operands.toList.filterMap fun | .tmp t => some t | _ => none

def frontOk (ops : Array Oper) (m : Nat) (σ : Env) : Bool :=
  (List.range m).all fun i => match ops[i]? with
    | some o => o.guard.isNone && (match o.dst with
      | some d => (σ.all fun p => !Nat.beq p.1 d) && ((List.range m).all fun j => Nat.beq i j || (match ops[j]? with
        | some o' => match o'.dst with
          | some d' => !Nat.beq d d'
          | none => false
        | none => false))
      | none => false) && o.after.toList.all fun e => !Region.binds .any e || Nat.blt e.on i
    | none => false

/-- The rest comes up behind the front, in the order of the text. -/
def tailOk (ops : Array Oper) (m : Nat) : Bool :=
  (List.range ops.size).all fun k => Nat.blt k m || ((List.range k).all fun j => ancB ops ops.size k j) && (match ops[k]? with
    | some o => o.after.toList.all fun e => !Region.binds .any e || Nat.blt e.on k
    | none => false)

def frontEnv : List Oper → Nat → (Nat → AV) → Env
  | [], _, _ => []
  | o :: r, k, X => match o.dst with
    | some d => (d, X k) :: frontEnv r (k + 1) X
    | none => frontEnv r (k + 1) X

/-- What an operation may see of the others' values. -/
def mask (ops : Array Oper) (m i : Nat) (X : Nat → AV) : Nat → AV := fun k => if ancB ops m i k then X k else .t []

theorem flatMap_congr' {α β : Type} {f g : α → List β} : ∀ {l : List α}, (∀ x ∈ l, f x = g x) → l.flatMap f = l.flatMap g
  | [], _ => rfl
  | a :: l, h => by
    simp only [List.flatMap_cons]
    rw [h a (by simp), flatMap_congr' (fun x hx => h x (by simp [hx]))]

theorem nbeq {a b : Nat} (h : Nat.beq a b = false) : a ≠ b := by
  intro e
  subst e
  have : Nat.beq a a = true := by simp
  rw [this] at h
  simp at h

theorem Sub.put {σ : Env} {d : Nat} {x : AV} : ∀ {τ : Env}, Sub σ τ → (∀ p ∈ τ, p.1 ≠ d) → Sub ((d, x) :: σ) τ
  | [], _, _ => trivial
  | (e, y) :: τ, ⟨h1, h2⟩, h => by
    refine ⟨?_, h2.put fun p hp => h p (by simp [hp])⟩
    have hne : (e == d) = false := by simpa using h (e, y) (by simp)
    simp only [List.lookup, hne]
    exact h1

theorem range_split {i m : Nat} (h : i < m) : List.range m = List.range i ++ i :: (List.range' (i + 1) (m - i - 1)) := by
  rw [List.range_eq_range', List.range_eq_range']
  have h1 : m = i + (m - i) := by omega
  conv => lhs; rw [h1]
  rw [← List.range'_append_1]
  congr 1
  have h2 : m - i = (m - i - 1) + 1 := by omega
  rw [h2, List.range'_succ]
  simp

def Fin (C : Ctx) (n : Nat) (S : AV → List Ob → Prop) (d : Nat) (σ' : Env) (Ωr : List Ob) : Pst := fun e a w =>
  match e with
  | .normal => ∃ x post, S x post ∧ St C (post ++ Ωr) w ∧ Has n C.ds (owns (post ++ Ωr) ++ C.X) w a ((d, x) :: σ')
  | _ => False

theorem G.fin {C : Ctx} {n : Nat} {S : AV → List Ob → Prop} {d : Nat} {σ' : Env} {Ωr Ω : List Ob} {x : AV} (post : List Ob) (hS : S x post) (hΩ : Ω = post ++ Ωr) : G C n (Fin C n S d σ' Ωr .normal) ((d, x) :: σ') Ω := by
  subst hΩ
  exact fun a w hs ha => ⟨x, post, hS, hs, ha⟩

section
variable {P : Program} {C : Ctx} {n : Nat} {ops : Array Oper} {Q : Pst} {σ : Env} {Ω : List Ob}

theorem wpOp_fin {i d : Nat} {o : Oper} {S : AV → List Ob → Prop} {σ' : Env} {Ωr : List Ob} {a : Act} {w : World} {K : Act → World → Prop} (hi : ops[i]? = some o) (hg : o.guard = none)
    (h : wpListIn C.F 0 P ops (Fin C n S d σ' Ωr) [o] a w) (hK : ∀ a w, Fin C n S d σ' Ωr .normal a w → K a w) : wpOpIn C.F 0 P ops Q i K a w := by
  have hout : ¬ LetsOut (Fin C n S d σ' Ωr) := by rintro ⟨a, w, h⟩; exact h
  have hw : Region.wanted o (yielded ops a.tmps) = true := by simp [Region.wanted, hg]
  simp only [wpListIn, hw, if_true] at h
  simp only [wpOpIn, hi, hw, if_true]
  unfold Oper.wpIn at *
  refine ⟨h.1, ?_⟩
  have h := h.2
  generalize (o.semAt C.F.round a.eval).run P w = r at *
  cases r with
  | ok nx w' =>
    cases nx <;> simp only [Oper.uponIn] at h ⊢ <;>
      first
        | exact hK _ _ h
        | exact h.elim
        | exact ⟨h.1, CallsIn.mono h.2 (fun e w'' he => match e, he with
            | .returned _, he => hK _ _ he
            | .panicked _, he => (he : False).elim
            | .outgrown, he => (hout he).elim)⟩
        | exact ⟨h.1, RowsIn.mono h.2 (fun _ _ he => hK _ _ he)⟩
        | exact ⟨h.1, RoundIn.mono h.2 (fun e w'' he => match e, he with
            | .returned _, he => hK _ _ he
            | .panicked _, he => (he : False).elim
            | .outgrown, he => (hout he).elim)⟩
  | halt x w' => cases x <;> simp only [Oper.uponIn] at h ⊢ <;> exact (h : False).elim

def Ld (listed : Array Bool) (i : Nat) : Prop := listed.getD i false = true

theorem Ld.set {listed : Array Bool} {i j : Nat} (hi : i < listed.size) : Ld (listed.setIfInBounds i true) j ↔ j = i ∨ Ld listed j := by
  unfold Ld
  by_cases h : i = j
  · subst h; simp [hi]
  · rw [getD_set_ne false h]
    constructor
    · exact fun h' => .inr h'
    · rintro (h' | h')
      · exact absurd h'.symm h
      · exact h'

/-- The set of what has come up is closed. -/
def Closed (ops : Array Oper) (listed : Array Bool) : Prop := ∀ i o, ops[i]? = some o → Ld listed i → ∀ e ∈ o.after, Region.binds .any e = true → Ld listed e.on

theorem Closed.anc {listed : Array Bool} (hc : Closed ops listed) : ∀ (f i j : Nat), ancB ops f i j = true → (∀ o, ops[i]? = some o → ∀ e ∈ o.after, Region.binds .any e = true → Ld listed e.on) → Ld listed j
  | 0, _, _, h, _ => by simp [ancB] at h
  | f + 1, i, j, h, hd => by
    simp only [ancB] at h
    split at h
    · rename_i o ho
      rw [List.any_eq_true] at h
      obtain ⟨e, he, hb⟩ := h
      simp only [Bool.and_eq_true, Bool.or_eq_true] at hb
      have hl := hd o ho e (by simpa using he) hb.1
      rcases hb.2 with h1 | h1
      · have : e.on = j := by simpa using h1
        rwa [this] at hl
      · exact Closed.anc hc f e.on j h1 (fun o' ho' e' he' hb' => hc e.on o' ho' hl e' he' hb')
    · simp at h

theorem Closed.set {listed : Array Bool} (hc : Closed ops listed) {i : Nat} {o : Oper} (ho : ops[i]? = some o) (hi : i < listed.size) (hall : ∀ e ∈ o.after, Region.binds .any e = true → Ld listed e.on) : Closed ops (listed.setIfInBounds i true) := by
  intro j o' ho' hl e he hb
  rw [Ld.set hi] at hl ⊢
  rcases hl with rfl | hl
  · rw [ho] at ho'
    simp at ho'
    subst ho'
    exact .inr (hall e he hb)
  · exact .inr (hc j o' ho' hl e he hb)

theorem frontEnv_get : ∀ {l : List Oper} {k : Nat} {X : Nat → AV} {d : Nat} {x : AV}, (frontEnv l k X).lookup d = some x → ∃ i o, l[i]? = some o ∧ o.dst = some d ∧ x = X (k + i)
  | [], _, _, _, _, h => by simp [frontEnv] at h
  | o :: r, k, X, d, x, h => by
    simp only [frontEnv] at h
    cases hd : o.dst with
    | none =>
      simp only [hd] at h
      obtain ⟨i, o', h1, h2, h3⟩ := frontEnv_get h
      exact ⟨i + 1, o', by simpa using h1, h2, by rw [h3]; congr 1; omega⟩
    | some d' =>
      simp only [hd] at h
      by_cases he : d = d'
      · subst he
        simp [List.lookup] at h
        exact ⟨0, o, rfl, hd, h.symm⟩
      · have hb : (d == d') = false := by simpa using he
        simp only [List.lookup, hb] at h
        obtain ⟨i, o', h1, h2, h3⟩ := frontEnv_get h
        exact ⟨i + 1, o', by simpa using h1, h2, by rw [h3]; congr 1; omega⟩

theorem lookup_append {σ τ : Env} {d : Nat} {x : AV} (h : (σ ++ τ).lookup d = some x) : σ.lookup d = some x ∨ τ.lookup d = some x := by
  induction σ with
  | nil => exact .inr h
  | cons p σ ih =>
    obtain ⟨e, y⟩ := p
    by_cases he : d = e
    · subst he
      simp [List.lookup] at h ⊢
      exact .inl h
    · have hb : (d == e) = false := by simpa using he
      simp only [List.cons_append, List.lookup, hb] at h ⊢
      exact ih h

/-- The tail: one order alone. -/
theorem tail_any (C : Ctx) {l : List Oper} {Q : Pst} : ∀ (r : List Oper) (k : Nat) (listed : Array Bool) (a : Act) (w : World), l.drop k = r → (∀ i, i < l.length → (Ld listed i ↔ i < k)) → listed.size = l.length →
    (∀ (i : Nat) (o : Oper), k ≤ i → l[i]? = some o → (∀ j, j < i → ancB l.toArray l.length i j = true) ∧ ∀ e ∈ o.after, Region.binds .any e = true → e.on < i) →
    Closed l.toArray listed → wpListIn C.F 0 P l.toArray Q r a w → wpAnyIn C.F 0 P .any l.toArray Q r.length listed a w
  | [], k, listed, a, w, hr, hl, hsz, ht, hc, h => by
    refine ⟨?_, h⟩
    have hk : l.length ≤ k := by simpa using hr
    cases hrr : Region.ready .any l.toArray listed with
    | nil => rfl
    | cons j js =>
      have hj : j ∈ Region.ready .any l.toArray listed := by rw [hrr]; simp
      rw [mem_ready] at hj
      obtain ⟨h0, o, ho, _⟩ := hj
      have hjl : j < l.length := by
        have := (Array.getElem?_eq_some_iff.1 ho).1
        simpa using this
      have := (hl j hjl).2 (by omega)
      unfold Ld at this
      have hjs : j < listed.size := by omega
      simp [hjs] at h0 this
      rw [h0] at this
      simp at this
  | o :: r, k, listed, a, w, hr, hl, hsz, ht, hc, h => by
    have hkl : k < l.length := by
      rcases Nat.lt_or_ge k l.length with h1 | h1
      · exact h1
      · rw [List.drop_eq_nil_of_le h1] at hr; simp at hr
    have hok : l[k]? = some o := by
      have := congrArg (fun x => x[0]?) hr
      simpa using this
    obtain ⟨hanc, hlt⟩ := ht k o (Nat.le_refl _) hok
    have hready : ∀ j, j ∈ Region.ready .any l.toArray listed ↔ j = k := by
      intro j
      rw [mem_ready]
      constructor
      · rintro ⟨h0, o', ho', hall⟩
        have hjl : j < l.length := by
          have := (Array.getElem?_eq_some_iff.1 ho').1
          simpa using this
        have hnl : ¬ Ld listed j := by
          intro h1
          unfold Ld at h1
          have hjs : j < listed.size := by omega
          simp [hjs] at h0 h1
          rw [h0] at h1
          simp at h1
        have hge : k ≤ j := by
          rcases Nat.lt_or_ge j k with h1 | h1
          · exact absurd ((hl j hjl).2 h1) hnl
          · exact h1
        rcases Nat.lt_or_ge k j with h1 | h1
        · have hjo : l[j]? = some o' := by simpa using ho'
          have ha := (ht j o' hge hjo).1 k h1
          have := hc.anc l.length j k ha (fun o'' ho'' e he hb => by
            rw [ho'] at ho''
            simp at ho''
            subst ho''
            exact hall e he hb)
          exact absurd ((hl k hkl).1 this) (by omega)
        · omega
      · rintro rfl
        refine ⟨?_, o, by simpa using hok, fun e he hb => ?_⟩
        · have hnl : ¬ Ld listed j := fun h1 => absurd ((hl j hkl).1 h1) (by omega)
          unfold Ld at hnl
          have hjs : j < listed.size := by omega
          simp [hjs] at hnl ⊢
          exact hnl
        · have h1 := hlt e he hb
          exact (hl e.on (by omega)).2 h1
    refine ⟨fun h0 => ?_, fun j hj => ?_⟩
    · have := (hready k).2 rfl
      rw [h0] at this
      simp at this
    · have hjk := (hready j).1 hj
      subst hjk
      have ih := fun a w => tail_any C (Q := Q) r (j + 1) (listed.setIfInBounds j true) a w (by
        have := congrArg (List.drop 1) hr
        simpa [List.drop_drop] using this) (fun i hi => by rw [Ld.set (by omega), hl i hi]; omega) (by simpa using hsz)
        (fun i o' hi ho' => ht i o' (by omega) ho') (hc.set (o := o) (by simpa using hok) (by omega) (fun e he hb => (hl e.on (by have := hlt e he hb; omega)).2 (hlt e he hb)))
      simp only [wpOpIn, List.getElem?_toArray, hok]
      simp only [wpListIn] at h
      split
      · rename_i hw
        simp only [hw, if_true] at h
        exact Oper.wpIn_mono ih h
      · rename_i hw
        simp only [hw] at h
        exact ⟨h.1, ih _ _ h.2⟩

/-- What is owned while a set has come up. -/
def ownAt (m : Nat) (listed : Array Bool) (Pre posts : Nat → List Ob) : List Ob := (List.range m).flatMap fun i => if listed.getD i false then posts i else Pre i

theorem ownAt_set {m i : Nat} {listed : Array Bool} {Pre posts : Nat → List Ob} (him : i < m) (hi : i < listed.size) (hnl : ¬ Ld listed i) :
    ∃ A B, ownAt m listed Pre posts = A ++ Pre i ++ B ∧ ∀ post, ownAt m (listed.setIfInBounds i true) Pre (fun j => if j = i then post else posts j) = A ++ post ++ B := by
  have hsame : ∀ (post : List Ob) (L : List Nat), i ∉ L → L.flatMap (fun j => if (listed.setIfInBounds i true).getD j false then (if j = i then post else posts j) else Pre j) = L.flatMap (fun j => if listed.getD j false then posts j else Pre j) := by
    intro post L hL
    apply flatMap_congr'
    intro j hj
    have hne : j ≠ i := fun e => hL (e ▸ hj)
    rw [getD_set_ne false (Ne.symm hne)]
    simp [hne]
  refine ⟨(List.range i).flatMap (fun j => if listed.getD j false then posts j else Pre j), (List.range' (i + 1) (m - i - 1)).flatMap (fun j => if listed.getD j false then posts j else Pre j), ?_, fun post => ?_⟩
  · unfold ownAt
    rw [range_split him, List.flatMap_append, List.flatMap_cons]
    have : ¬ listed.getD i false = true := hnl
    rw [if_neg this]
    simp
  · unfold ownAt
    rw [range_split him, List.flatMap_append, List.flatMap_cons, hsame post _ (by simp), hsame post _ (by intro h; have := List.mem_range'.1 h; omega)]
    simp [hi]

theorem filter_set {n i : Nat} {listed : Array Bool} (hin : i < n) (hi : i < listed.size) (hnl : ¬ Ld listed i) {k : Nat} (h : ((List.range n).filter fun i => !listed.getD i false).length = k + 1) :
    ((List.range n).filter fun j => !(listed.setIfInBounds i true).getD j false).length = k := by
  have hsame : ∀ L : List Nat, i ∉ L → L.filter (fun j => !(listed.setIfInBounds i true).getD j false) = L.filter (fun j => !listed.getD j false) := by
    intro L hL
    apply List.filter_congr
    intro j hj
    have hne : j ≠ i := fun e => hL (e ▸ hj)
    rw [getD_set_ne false (Ne.symm hne)]
  have h1 : listed.getD i false = false := by
    cases hc : listed.getD i false with
    | false => rfl
    | true => exact absurd hc hnl
  have h2 : (listed.setIfInBounds i true).getD i false = true := by simp [hi]
  rw [range_split hin, List.filter_append, List.filter_cons, h1] at h
  rw [range_split hin, List.filter_append, List.filter_cons, h2, hsame _ (by simp), hsame _ (by intro h; have := List.mem_range'.1 h; omega)]
  simp at h ⊢
  omega

theorem T.flow {id : Nat} {l : List Oper} (m : Nat) (σb : Env) (Ωc : List Ob) (Pre : Nat → List Ob) (R : Nat → AV → (Nat → AV) → List Ob → Prop) (hm : P.follows .mixedOrders = true) (hml : Nat.ble m l.length = true) (hf : frontOk l.toArray m σb = true) (ht : tailOk l.toArray m = true) (hsub : Sub σ σb)
    (hΩ : ((List.range m).flatMap Pre ++ Ωc).Perm Ω)
    (hops : ∀ i, Nat.blt i m = true → ∀ (o : Oper) (d : Nat) (X : Nat → AV) (posts : Nat → List Ob) (σ' : Env) (Ωf : List Ob), l[i]? = some o → o.dst = some d → Sub σ' σb →
      (∀ j, ancB l.toArray m i j = true → (∃ o' d', l[j]? = some o' ∧ o'.dst = some d' ∧ σ'.lookup d' = some (X j)) ∧ R j (X j) (mask l.toArray m j X) (posts j)) →
      L P C n l.toArray (Fin C n (fun x post => R i x (mask l.toArray m i X) post) d σ' (Ωc ++ Ωf)) [o] σ' (Pre i ++ (Ωc ++ Ωf)))
    (hrest : ∀ (X : Nat → AV) (posts : Nat → List Ob), (∀ i, i < m → R i (X i) (mask l.toArray m i X) (posts i)) → L P C n l.toArray Q (l.drop m) (frontEnv (l.take m) 0 X ++ σb) ((List.range m).flatMap posts ++ Ωc)) :
    T P C n Q (.region id l.toArray true) σ Ω := by
  have hml' : m ≤ l.length := by simpa using hml
  intro a w hs ha
  obtain ⟨hs, hst0⟩ := hs.perm hΩ.symm
  have ha := ha.step hst0
  obtain ⟨hs, hst⟩ := hs.drew
  have ha := ha.step hst
  refine wpIn_region_any hm ?_
  rw [show ({ w with drawn := w.drawn + 1 } : World) = w.drew from rfl]
  -- the checks
  have hfront : ∀ (i : Nat), i < m → ∃ o d, l[i]? = some o ∧ o.guard = none ∧ o.dst = some d ∧ (∀ p ∈ σb, p.1 ≠ d) ∧ (∀ j o' d', j < m → j ≠ i → l[j]? = some o' → o'.dst = some d' → d' ≠ d) ∧ ∀ e ∈ o.after, Region.binds .any e = true → e.on < i := by
    intro i hi
    unfold frontOk at hf
    rw [List.all_eq_true] at hf
    have h1 := hf i (by simpa using hi)
    simp only [List.getElem?_toArray] at h1
    cases ho : l[i]? with
    | none => simp [ho] at h1
    | some o =>
      simp only [ho, Bool.and_eq_true] at h1
      cases hd : o.dst with
      | none => simp [hd] at h1
      | some d =>
        simp only [hd, Bool.and_eq_true] at h1
        obtain ⟨⟨h2, h3, h4⟩, h5⟩ := h1
        refine ⟨o, d, rfl, by simpa using h2, hd, fun p hp => ?_, fun j o' d' hj hji ho' hd' => ?_, fun e he hb => ?_⟩
        · rw [List.all_eq_true] at h3
          have := h3 p hp
          exact nbeq (by simpa only [Bool.not_eq_true'] using this)
        · rw [List.all_eq_true] at h4
          have := h4 j (by simpa using hj)
          simp only [ho', hd', Bool.or_eq_true, Bool.not_eq_true'] at this
          rcases this with h6 | h6
          · exact absurd (by simpa using h6 : i = j).symm hji
          · exact fun e => nbeq h6 e.symm
        · rw [List.all_eq_true] at h5
          have := h5 e (by simpa using he)
          simp [hb] at this
          exact this
  have htail : ∀ (i : Nat) (o : Oper), m ≤ i → l[i]? = some o → (∀ j, j < i → ancB l.toArray l.length i j = true) ∧ ∀ e ∈ o.after, Region.binds .any e = true → e.on < i := by
    intro i o hi ho
    unfold tailOk at ht
    rw [List.all_eq_true] at ht
    have hil : i < l.length := (List.getElem?_eq_some_iff.1 ho).1
    have h1 := ht i (by simpa using hil)
    simp only [List.getElem?_toArray, ho, Bool.or_eq_true, Bool.and_eq_true, List.size_toArray] at h1
    rcases h1 with h1 | ⟨h1, h2⟩
    · have : i < m := by simpa using h1
      omega
    · refine ⟨fun j hj => ?_, fun e he hb => ?_⟩
      · rw [List.all_eq_true] at h1
        exact h1 j (by simpa using hj)
      · rw [List.all_eq_true] at h2
        have := h2 e (by simpa using he)
        simp [hb] at this
        exact this
  -- the invariant
  have key : ∀ (fuel : Nat) (listed : Array Bool) (a : Act) (w : World) (X : Nat → AV) (posts : Nat → List Ob), listed.size = l.length → Closed l.toArray listed → (∀ i, Ld listed i → i < m) →
      ((List.range l.length).filter fun i => !listed.getD i false).length = fuel →
      (∀ i, i < m → Ld listed i → R i (X i) (mask l.toArray m i X) (posts i)) → St C (ownAt m listed Pre posts ++ Ωc) w →
      (∃ σ', Has n C.ds (owns (ownAt m listed Pre posts ++ Ωc) ++ C.X) w a σ' ∧ Sub σ' σb ∧ ∀ i o d, i < m → Ld listed i → l[i]? = some o → o.dst = some d → σ'.lookup d = some (X i)) →
      wpAnyIn C.F 0 P .any l.toArray Q fuel listed a w := by
    intro fuel
    induction fuel with
    | zero =>
      intro listed a w X posts hsz hc hlm hfu hR hs hσ
      -- all has come up: so the front is all
      have hall : ∀ i, i < l.length → Ld listed i := by
        intro i hi
        have h1 : (List.range l.length).filter (fun i => !listed.getD i false) = [] := List.eq_nil_of_length_eq_zero hfu
        rw [List.filter_eq_nil_iff] at h1
        have := h1 i (by simpa using hi)
        unfold Ld
        simpa using this
      have hmm : m = l.length := by
        rcases Nat.lt_or_ge m l.length with h1 | h1
        · have := hlm m (hall m h1); omega
        · omega
      obtain ⟨σ', hH, hsb, hget⟩ := hσ
      have hown : ownAt m listed Pre posts = (List.range m).flatMap posts := by
        unfold ownAt
        apply flatMap_congr'
        intro i hi
        have : listed.getD i false = true := hall i (by have := List.mem_range.1 hi; omega)
        rw [this]; rfl
      rw [hown] at hs hH
      have hL := hrest X posts (fun i hi => hR i hi (hall i (by omega)))
      refine tail_any C [] l.length listed a w (by simp) (fun i hi => ⟨fun _ => hi, fun _ => hall i hi⟩) hsz (fun i o hi ho => by have := (List.getElem?_eq_some_iff.1 ho).1; omega) hc ?_
      rw [hmm, List.drop_length] at hL
      rw [hmm] at hs hH
      refine hL a w hs ⟨hH.size, hH.defers, fun d x hx => ?_⟩
      rcases lookup_append hx with h1 | h1
      · obtain ⟨i, o, h2, h3, rfl⟩ := frontEnv_get h1
        have hil : i < l.length := by
          have := (List.getElem?_eq_some_iff.1 h2).1
          rw [List.length_take] at this; omega
        have h2' : l[i]? = some o := by
          rw [List.getElem?_take, if_pos (by omega)] at h2
          exact h2
        exact hH.get d _ (by rw [Nat.zero_add]; exact hget i o d (by omega) (hall i hil) h2' h3)
      · exact hH.get d x (hsb.get h1)
    | succ fuel ih =>
      intro listed a w X posts hsz hc hlm hfu hR hs hσ
      by_cases hallm : ∀ i, i < m → Ld listed i
      · -- the tail
        obtain ⟨σ', hH, hsb, hget⟩ := hσ
        have hown : ownAt m listed Pre posts = (List.range m).flatMap posts := by
          unfold ownAt
          apply flatMap_congr'
          intro i hi
          have : listed.getD i false = true := hallm i (List.mem_range.1 hi)
          rw [this]; rfl
        rw [hown] at hs hH
        have hL := hrest X posts (fun i hi => hR i hi (hallm i hi))
        have hlen : (l.drop m).length = fuel + 1 := by
          rw [← hfu]
          have h1 : (List.range l.length).filter (fun i => !listed.getD i false) = (List.range l.length).filter (fun i => decide (m ≤ i)) := by
            apply List.filter_congr
            intro i hi
            by_cases him : i < m
            · have : listed.getD i false = true := hallm i him
              rw [this]; simp; omega
            · have : ¬ listed.getD i false = true := fun h => him (hlm i h)
              simp at this
              simp [this]; omega
          rw [h1]
          have h2 : List.range l.length = List.range m ++ List.range' m (l.length - m) := by
            rw [List.range_eq_range', List.range_eq_range']
            have : l.length = m + (l.length - m) := by omega
            conv => lhs; rw [this]
            rw [← List.range'_append_1]; simp
          rw [h2, List.filter_append, List.filter_eq_nil_iff.2, List.filter_eq_self.2]
          · simp
          · intro i hi; have := List.mem_range'.1 hi; simp; omega
          · intro i hi; have := List.mem_range.1 hi; simp; omega
        rw [← hlen]
        refine tail_any C (l.drop m) m listed a w rfl (fun i hi => ⟨fun h => hlm i h, fun h => hallm i h⟩) hsz htail hc ?_
        refine hL a w hs ⟨hH.size, hH.defers, fun d x hx => ?_⟩
        rcases lookup_append hx with h1 | h1
        · obtain ⟨i, o, h2, h3, rfl⟩ := frontEnv_get h1
          have him : i < m := by
            have := (List.getElem?_eq_some_iff.1 h2).1
            rw [List.length_take] at this; omega
          have h2' : l[i]? = some o := by
            rw [List.getElem?_take, if_pos (by omega)] at h2
            exact h2
          exact hH.get d _ (by rw [Nat.zero_add]; exact hget i o d him (hallm i him) h2' h3)
        · exact hH.get d x (hsb.get h1)
      · -- one of the front
        have hready : ∀ j, j ∈ Region.ready .any l.toArray listed → j < m ∧ ¬ Ld listed j ∧ ∃ o, l[j]? = some o ∧ ∀ e ∈ o.after, Region.binds .any e = true → Ld listed e.on := by
          intro j hj
          rw [mem_ready] at hj
          obtain ⟨h0, o, ho, hall⟩ := hj
          have hjl : j < l.length := by
            have := (Array.getElem?_eq_some_iff.1 ho).1
            simpa using this
          have hnl : ¬ Ld listed j := by
            intro h1
            unfold Ld at h1
            have hjs : j < listed.size := by omega
            simp [hjs] at h0 h1
            rw [h0] at h1
            simp at h1
          refine ⟨?_, hnl, o, by simpa using ho, hall⟩
          rcases Nat.lt_or_ge j m with h1 | h1
          · exact h1
          · exfalso
            apply hallm
            intro i hi
            have := (htail j o h1 (by simpa using ho)).1 i (by omega)
            exact hc.anc l.length j i this (fun o' ho' e he hb => by
              rw [ho] at ho'
              simp at ho'
              subst ho'
              exact hall e he hb)
        refine ⟨fun h0 => ?_, fun i hi => ?_⟩
        · -- there is a least one that has not come up: it is ready
          exfalso
          have hex : ∃ i, i < m ∧ ¬ Ld listed i := by
            rcases Classical.not_forall.1 hallm with ⟨i, hi⟩
            rcases Classical.not_imp.1 hi with ⟨h1, h2⟩
            exact ⟨i, h1, h2⟩
          obtain ⟨i, ⟨him, hnl⟩, hmin⟩ := exists_least (p := fun i => i < m ∧ ¬ Ld listed i) hex
          obtain ⟨o, d, ho, _, _, _, _, hlt⟩ := hfront i him
          have : i ∈ Region.ready .any l.toArray listed := by
            rw [mem_ready]
            refine ⟨?_, o, by simpa using ho, fun e he hb => ?_⟩
            · unfold Ld at hnl
              have hjs : i < listed.size := by omega
              simp [hjs] at hnl ⊢
              exact hnl
            · have h1 := hlt e he hb
              by_cases h2 : Ld listed e.on
              · exact h2
              · have := hmin e.on ⟨by omega, h2⟩
                omega
          rw [h0] at this
          simp at this
        · obtain ⟨him, hnl, o, ho, hall⟩ := hready i hi
          obtain ⟨o', d, ho', hg, hd, hσd, hdd, hlt⟩ := hfront i him
          rw [ho] at ho'
          simp at ho'
          subst ho'
          obtain ⟨σ', hH, hsb, hget⟩ := hσ
          obtain ⟨A, B, hA, hAB⟩ := ownAt_set (Pre := Pre) (posts := posts) him (by omega) hnl
          have hperm : ∀ Z : List Ob, (A ++ Z ++ B ++ Ωc).Perm (Z ++ (Ωc ++ (A ++ B))) := by
            intro Z
            have h1 : (A ++ Z ++ B ++ Ωc).Perm (Z ++ A ++ B ++ Ωc) := ((List.perm_append_comm.append_right B).append_right Ωc)
            have h2 : Z ++ A ++ B ++ Ωc = Z ++ ((A ++ B) ++ Ωc) := by simp
            rw [h2] at h1
            exact h1.trans (List.perm_append_comm.append_left Z)
          have hp : (ownAt m listed Pre posts ++ Ωc).Perm (Pre i ++ (Ωc ++ (A ++ B))) := by
            rw [hA]; exact hperm _
          obtain ⟨hs1, hst1⟩ := hs.perm hp
          have hanc : ∀ j, ancB l.toArray m i j = true → Ld listed j := fun j hj => hc.anc m i j hj (fun o' ho' e he hb => by
            have ho2 : l[i]? = some o' := by simpa using ho'
            rw [ho] at ho2
            simp at ho2
            subst ho2
            exact hall e he hb)
          have hL := hops i (by simpa using him) o d X posts σ' (A ++ B) ho hd hsb (fun j hj => by
            have hl := hanc j hj
            have hjm := hlm j hl
            obtain ⟨oj, dj, hoj, _, hdj, _⟩ := hfront j hjm
            exact ⟨⟨oj, dj, hoj, hdj, hget j oj dj hjm hl hoj hdj⟩, hR j hjm hl⟩) a w hs1 (hH.step hst1)
          refine wpOp_fin (o := o) (by simpa using ho) hg hL ?_
          rintro a' w' ⟨x, post, hRx, hs2, hH2⟩
          have hp2 : (post ++ (Ωc ++ (A ++ B))).Perm (A ++ post ++ B ++ Ωc) := (hperm post).symm
          obtain ⟨hs3, hst3⟩ := hs2.perm hp2
          have hmask : ∀ j, j < m → (Ld listed j ∨ j = i) → mask l.toArray m j (fun k => if k = i then x else X k) = mask l.toArray m j X := by
            intro j hj hlj
            funext k
            unfold mask
            split
            · rename_i hk
              have hki : k ≠ i := by
                intro e
                subst e
                -- k = i is an ancestor of j; j is listed (or is i itself)
                have hlk : Ld listed k := by
                  rcases hlj with h1 | h1
                  · exact hc.anc m j k hk (fun o' ho' e he hb => hc j o' ho' h1 e he hb)
                  · subst h1; exact hanc _ hk
                exact hnl hlk
              simp [hki]
            · rfl
          refine ih (listed.setIfInBounds i true) a' w' (fun k => if k = i then x else X k) (fun j => if j = i then post else posts j) (by simpa using hsz) (hc.set (o := o) (by simpa using ho) (by omega) hall) (fun j hj => ?_) ?_ (fun j hj hlj => ?_) (by rw [hAB]; exact hs3) ⟨(d, x) :: σ', by rw [hAB]; exact hH2.step hst3, ?_, fun j oj dj hj hlj hoj hdj => ?_⟩
          · rcases (Ld.set (by omega)).1 hj with rfl | h1
            · exact him
            · exact hlm j h1
          · exact filter_set (by omega) (by omega) hnl hfu
          · rcases (Ld.set (by omega)).1 hlj with rfl | h1
            · rw [hmask j hj (.inr rfl)]; simpa using hRx
            · have hne : j ≠ i := fun e => hnl (e ▸ h1)
              rw [hmask j hj (.inl h1)]
              simpa [hne] using hR j hj h1
          · exact hsb.put hσd
          · by_cases hji : j = i
            · subst hji
              rw [ho] at hoj
              simp at hoj
              subst hoj
              rw [hd] at hdj
              simp at hdj
              subst hdj
              simp [List.lookup]
            · have hne := hdd j oj dj hj hji hoj hdj
              have hb : (dj == d) = false := by simpa using hne
              simp only [List.lookup, hb, hji, if_false]
              rcases (Ld.set (by omega)).1 hlj with h1 | h1
              · exact absurd h1 hji
              · exact hget j oj dj hj h1 hoj hdj
  have hL0 : ∀ i, ¬ Ld (Array.replicate l.length false) i := by
    intro i h
    unfold Ld at h
    rw [Array.getD_eq_getD_getElem?, Array.getElem?_replicate] at h
    split at h <;> simp at h
  have hown0 : ownAt m (Array.replicate l.length false) Pre (fun _ => []) = (List.range m).flatMap Pre := by
    unfold ownAt
    apply flatMap_congr'
    intro i _
    have : ¬ (Array.replicate l.length false).getD i false = true := hL0 i
    rw [if_neg this]
  refine key l.length (Array.replicate l.length false) a w.drew (fun _ => .t []) (fun _ => []) (by simp) (fun i o _ h => absurd h (hL0 i)) (fun i h => absurd h (hL0 i)) ?_ (fun i _ h => absurd h (hL0 i)) (by rw [hown0]; exact hs) ⟨σ, by rw [hown0]; exact ha, hsub, fun i _ _ _ h => absurd h (hL0 i)⟩
  · rw [List.filter_eq_self.2]
    · simp
    · intro i hi
      have : ¬ (Array.replicate l.length false).getD i false = true := hL0 i
      simpa using this

end
end Go.Q
