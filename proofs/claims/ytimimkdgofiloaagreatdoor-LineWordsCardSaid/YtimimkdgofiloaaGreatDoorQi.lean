/- The rules in the form in which the printed proofs use them. A region that draws, each of whose first operations yields a known value and leaves what is owned as it is. -/
import Derived.Test.YtimimkdgofiloaaGreatDoorQh
namespace Go.Q
open Go

def dstAt (l : List Oper) (j : Nat) : Nat :=
  match l[j]? with
  | some o => match o.dst with
    | some d => d
    | none => 0
  | none => 0

/-- What is to be shown of one operation of a region that draws. -/
def FlowOp (P : Program) (C : Ctx) (n : Nat) (l : List Oper) (m : Nat) (σb : Env) (Ωc : List Ob) (Pre : Nat → List Ob) (R : Nat → AV → (Nat → AV) → List Ob → Prop) (i : Nat) (o : Oper) : Prop :=
  ∀ (X : Nat → AV) (posts : Nat → List Ob) (σ' : Env) (Ωf : List Ob), Sub σ' σb →
    (∀ j, ancB l.toArray m i j = true → σ'.lookup (dstAt l j) = some (X j) ∧ R j (X j) (mask l.toArray m j X) (posts j)) →
    L P C n l.toArray (Fin C n (fun x post => R i x (mask l.toArray m i X) post) (dstAt l i) σ' (Ωc ++ Ωf)) [o] σ' (Pre i ++ (Ωc ++ Ωf))

def FlowOps (P : Program) (C : Ctx) (n : Nat) (l : List Oper) (m : Nat) (σb : Env) (Ωc : List Ob) (Pre : Nat → List Ob) (R : Nat → AV → (Nat → AV) → List Ob → Prop) : Nat → List Oper → Prop
  | _, [] => True
  | i, o :: r => FlowOp P C n l m σb Ωc Pre R i o ∧ FlowOps P C n l m σb Ωc Pre R (i + 1) r

section
variable {P : Program} {C : Ctx} {n : Nat} {ops : Array Oper} {Q : Pst} {rest : List Oper} {σ σ' : Env} {Ω Ω' A B : List Ob} {d : Nat} {ty : TypeId} {pos : String} {after : Array Edge}

theorem FlowOps.get {l : List Oper} {m : Nat} {σb : Env} {Ωc : List Ob} {Pre : Nat → List Ob} {R : Nat → AV → (Nat → AV) → List Ob → Prop} : ∀ {r : List Oper} {k : Nat}, FlowOps P C n l m σb Ωc Pre R k r → ∀ (i : Nat) (o : Oper), r[i]? = some o → FlowOp P C n l m σb Ωc Pre R (k + i) o
  | [], _, _, i, o, h => by simp at h
  | a :: r, k, ⟨h1, _⟩, 0, o, h => by simp at h; subst h; exact h1
  | a :: r, k, ⟨_, h2⟩, i + 1, o, h => by
    have := h2.get i o (by simpa using h)
    rwa [show k + 1 + i = k + (i + 1) by omega] at this

/-- A region that draws: the first m operations each by itself; the rest in the order of the text. -/
theorem T.draw {id : Nat} {l : List Oper} (m : Nat) (σb : Env) (Ωc : List Ob) (Pre : Nat → List Ob) (R : Nat → AV → (Nat → AV) → List Ob → Prop) (hm : P.follows .mixedOrders = true) (hml : Nat.ble m l.length = true) (hf : frontOk l.toArray m σb = true) (ht : tailOk l.toArray m = true) (hsub : Sub σ σb)
    (hΩ : ((List.range m).flatMap Pre ++ Ωc).Perm Ω)
    (hops : FlowOps P C n l m σb Ωc Pre R 0 (l.take m))
    (hrest : ∀ (X : Nat → AV) (posts : Nat → List Ob), (∀ i, Nat.blt i m = true → R i (X i) (mask l.toArray m i X) (posts i)) → L P C n l.toArray Q (l.drop m) (frontEnv (l.take m) 0 X ++ σb) ((List.range m).flatMap posts ++ Ωc)) :
    T P C n Q (.region id l.toArray true) σ Ω := by
  refine T.flow m σb Ωc Pre R hm hml hf ht hsub hΩ (fun i hi o d X posts σ' Ωf ho hd hs hA => ?_) fun X posts h => hrest X posts fun i hi => h i (bltLt hi)
  have hi' := bltLt hi
  have h1 := hops.get i o (by rw [List.getElem?_take, if_pos hi']; exact ho)
  rw [Nat.zero_add] at h1
  have hdd : dstAt l i = d := by simp [dstAt, ho, hd]
  have h2 := h1 X posts σ' Ωf hs (fun j hj => by
    obtain ⟨⟨o', d', h3, h4, h5⟩, h6⟩ := hA j hj
    refine ⟨?_, h6⟩
    have : dstAt l j = d' := by simp [dstAt, h3, h4]
    rw [this]; exact h5)
  rw [hdd] at h2
  exact h2

/-- A branch whose way is known. -/
theorem T.condT {t : Nat} {x y : Code} (hb : σ.lookup t = some (aB true)) (h : T P C n Q x σ Ω) : T P C n Q (.cond (.tmp t) x y) σ Ω :=
  T.cond hb (fun _ => h) (fun e => by simp at e)
theorem T.condF {t : Nat} {x y : Code} (hb : σ.lookup t = some (aB false)) (h : T P C n Q y σ Ω) : T P C n Q (.cond (.tmp t) x y) σ Ω :=
  T.cond hb (fun e => by simp at e) (fun _ => h)
/-- A branch on what a proposition decides. -/
theorem T.condD {t : Nat} {x y : Code} {p : Prop} {b : Bool} (hb : σ.lookup t = some (aB b)) (hp : b = true ↔ p) (h1 : p → T P C n Q x σ Ω) (h2 : ¬ p → T P C n Q y σ Ω) : T P C n Q (.cond (.tmp t) x y) σ Ω :=
  T.cond hb (fun e => h1 (hp.1 e)) (fun e => h2 (fun h => by have := hp.2 h; rw [this] at e; simp at e))

/-- A bool that a slot holds, by what it is. -/
theorem L.setB {t : Nat} {b b' : Bool} (ht : σ.lookup t = some (aB b)) (hb : b = b') (h : L P C n ops Q rest ((t, aB b') :: σ) Ω) : L P C n ops Q rest σ Ω :=
  fun a w hs ha => h a w hs (ha.weak ht (by subst hb; exact fun _ h => h))
theorem T.setB {t : Nat} {b b' : Bool} {c : Code} (ht : σ.lookup t = some (aB b)) (hb : b = b') (h : T P C n Q c ((t, aB b') :: σ) Ω) : T P C n Q c σ Ω :=
  fun a w hs ha => h a w hs (ha.weak ht (by subst hb; exact fun _ h => h))

/-- The nil slice, as data. -/
theorem L.nilD (t sz : Nat) (ht : σ.lookup t = some (aR (.slice none 0 0))) (h : L P C n ops Q rest ((t, aL sz []) :: σ) Ω) : L P C n ops Q rest σ Ω :=
  fun a w hs ha => h a w hs (ha.weak ht fun v hv => by rw [hv.1]; exact Rav.nil sz)
theorem T.nilD {c : Code} (t sz : Nat) (ht : σ.lookup t = some (aR (.slice none 0 0))) (h : T P C n Q c ((t, aL sz []) :: σ) Ω) : T P C n Q c σ Ω :=
  fun a w hs ha => h a w hs (ha.weak ht fun v hv => by rw [hv.1]; exact Rav.nil sz)
theorem G.nilD {K : Act → World → Prop} (t sz : Nat) (ht : σ.lookup t = some (aR (.slice none 0 0))) (h : G C n K ((t, aL sz []) :: σ) Ω) : G C n K σ Ω :=
  fun a w hs ha => h a w hs (ha.weak ht fun v hv => by rw [hv.1]; exact Rav.nil sz)

/-- A call of a function by name; what it needs of what is owned stands in the middle. -/
theorem L.callO {f : FuncId} {xs : List Operand} {ts : Array TypeId} {as : List SV} {R : AV → List Ob → Prop} (A Ω1 B : List Ob) (hΩ : Ω = A ++ Ω1 ++ B) (hf : enters P f = true) (hx : evs σ xs = some as) (hdn : Nat.blt d n = true) (hF : Fc P f as Ω1 R)
    (h : ∀ x Ω', R x Ω' → L P C n ops Q rest ((d, x) :: σ) (A ++ Ω' ++ B)) : L P C n ops Q ({ dst := some d, op := .call { callee := .value (.func f), args := xs.toArray, argTypes := ts }, type := ty, pos, after, guard := none } :: rest) σ Ω := by
  subst hΩ
  exact L.enter rfl ⟨d, .inl ⟨rfl, bltLt hdn, h⟩⟩ (fun a w _ ha => ⟨xs.map a.eval, run_call_exec rfl hf a w, ha.vals hx⟩) hF

/-- What a closure has captured, as abstract values. -/
def capS : List Value → List SV
  | [] => []
  | .pointer (some ⟨b, o, none⟩) :: r => .c (.p b o) :: capS r
  | v :: r => .c (.r v) :: capS r

theorem capS_ok {Y : List Nat} {w : World} : ∀ {l : List Value}, l.all Value.oneCell' = true → All2 (Rsv Y w) l (capS l)
  | [], _ => trivial
  | v :: r, h => by
    simp only [List.all_cons, Bool.and_eq_true] at h
    unfold capS
    split
    · rename_i hh; simp at hh
    · rename_i b o r' hh
      simp only [List.cons.injEq] at hh
      obtain ⟨rfl, rfl⟩ := hh
      exact ⟨rfl, capS_ok h.2⟩
    · rename_i v' r' _ hh
      simp only [List.cons.injEq] at hh
      obtain ⟨rfl, rfl⟩ := hh
      exact ⟨⟨rfl, h.1⟩, capS_ok h.2⟩

/-- A call of a function value. -/
theorem L.callV {t : Nat} {f : FuncId} {caps : List Value} {xs : List Operand} {ts : Array TypeId} {as : List SV} {R : AV → List Ob → Prop} (A Ω1 B : List Ob) (hΩ : Ω = A ++ Ω1 ++ B) (ht : σ.lookup t = some (aR (.func (.func f) #[] caps.toArray))) (hf : enters P f = true) (hcap : caps.all Value.oneCell' = true) (hx : evs σ xs = some as) (hdn : Nat.blt d n = true) (hF : Fc P f (as ++ capS caps) Ω1 R)
    (h : ∀ x Ω', R x Ω' → L P C n ops Q rest ((d, x) :: σ) (A ++ Ω' ++ B)) : L P C n ops Q ({ dst := some d, op := .call { callee := .value (.tmp t), args := xs.toArray, argTypes := ts }, type := ty, pos, after, guard := none } :: rest) σ Ω := by
  subst hΩ
  refine L.enter rfl ⟨d, .inl ⟨rfl, bltLt hdn, h⟩⟩ (fun a w _ ha => ⟨xs.map a.eval ++ caps, ?_, (ha.vals hx).append (capS_ok hcap)⟩) hF
  have he : a.eval (.tmp t) = .func (.func f) #[] caps.toArray := ha.raw (x := .tmp t) ht
  simp [execOp, resolve, Deferred.ofValue, he, invoke, run_callFunc hf]

/-- ' if' in an operation: both ways alike. -/
theorem L.pk {c x y : Operand} {b : Bool} {z1 z2 : AV} (hc : ev σ c = some (aB b)) (hx : ev σ x = some z1) (hy : ev σ y = some z2) (hdn : Nat.blt d n = true) (h1 : b = true → L P C n ops Q rest ((d, z1) :: σ) Ω) (h2 : b = false → L P C n ops Q rest ((d, z2) :: σ) Ω) :
    L P C n ops Q ({ dst := some d, op := .pick c x y, type := ty, pos, after, guard := none } :: rest) σ Ω := by
  cases b with
  | true => exact L.pkT hc hx hdn (h1 rfl)
  | false => exact L.pkF hc hy hdn (h2 rfl)

end
end Go.Q
namespace Go.Q
open Go
section
variable {P : Program} {C : Ctx} {n : Nat} {ops : Array Oper} {Q : Pst} {rest : List Oper} {σ σ' : Env} {Ω Ω' A B : List Ob} {d : Nat} {ty : TypeId} {pos : String} {after : Array Edge}

theorem setAt_of {α : Type} : ∀ {l : List α} {i : Nat} {x : α} {l' : List α}, setL l i x = some l' → SetAt l i x l'
  | a :: l, 0, x, l', h => by simp [setL] at h; subst h; exact .z a x l
  | a :: l, i + 1, x, l', h => by
    simp only [setL] at h
    cases hh : setL l i x with
    | none => simp [hh] at h
    | some m => simp [hh] at h; subst h; exact .s a (setAt_of hh)
  | [], _, _, _, h => by simp [setL] at h

/-- A store of one cell into an own block. -/
theorem L.sto {t : TypeId} {x y : Operand} {b o : Nat} {T : TypeId} {cs cs' : List CV} {z : CV} {Ω' : List Ob} (i : Nat) (hsz : (P.info? t).map (·.size) = some 1) (hx : ev σ x = some (aP b o)) (hy : ev σ y = some (.v (.c z))) (hi : Ω[i]? = some (.blk b T cs)) (hc : setL cs o z = some cs') (hΩ : setL Ω i (.blk b T cs') = some Ω')
    (h : L P C n ops Q rest σ Ω') : L P C n ops Q ({ dst := none, op := .store t x y, type := ty, pos, after, guard := none } :: rest) σ Ω :=
  L.st hsz hx hy hi (setAt_of hc) (setAt_of hΩ) h

/-- A store over the whole of an own block. -/
theorem L.stog {t : TypeId} {x y : Operand} {b : Nat} {T : TypeId} {cs cs' : List CV} {Ω' : List Ob} {sz : Nat} (i : Nat) (hsz : (P.info? t).map (·.size) = some sz) (hx : ev σ x = some (aP b 0)) (hy : ev σ y = some (.v (.g cs'))) (hi : Ω[i]? = some (.blk b T cs)) (hcs : Nat.beq cs.length sz = true) (hl : Nat.beq cs'.length sz = true) (hΩ : setL Ω i (.blk b T cs') = some Ω')
    (h : L P C n ops Q rest σ Ω') : L P C n ops Q ({ dst := none, op := .store t x y, type := ty, pos, after, guard := none } :: rest) σ Ω := by
  have h1 : cs.length = sz := by simpa using hcs
  have h2 : cs'.length = sz := by simpa using hl
  exact L.stg (by rw [h1]; exact hsz) hx hy hi (by omega) (setAt_of hΩ) h

/-- append onto an own row. -/
theorem L.app {t e : TypeId} {x y : Operand} {v : Value} {sz bytes : Nat} {zv : Value} {es ds : List (List D)} {F : Value → List Ob} (i : Nat) (ht : P.underlying t = some (.slice e)) (hinfo : (P.info? e).map (fun i => (i.zero, i.size, i.bytes)) = some (some zv, sz, bytes)) (hzs : Nat.beq zv.cells.size sz = true) (hsz : Nat.blt 0 sz = true)
    (hx : ev σ x = some (aR v)) (hy : ev σ y = some (aL sz ds)) (hi : Ω[i]? = some (.row v e sz es)) (hb : (es.length + ds.length) * bytes ≤ 140737488355328) (hm : es.length + ds.length ≤ 9223372036854775807) (hdn : Nat.blt d n = true) (hF : ∀ v', setL Ω i (.row v' e sz (es ++ ds)) = some (F v'))
    (h : ∀ v', L P C n ops Q rest ((d, aR v') :: σ) (F v')) : L P C n ops Q ({ dst := some d, op := .call { callee := .builtin .append, args := #[x, y], argTypes := #[t, t] }, type := ty, pos, after, guard := none } :: rest) σ Ω :=
  L.ap ht hinfo hzs hsz hx hy hi hb hm hdn fun v' Ω' hΩ' => by
    rw [hF v'] at hΩ'
    cases hΩ'
    exact h v'

/-- A bool in a slot, case by case. -/
theorem L.caseB (t : Nat) {b : Bool} (ht : σ.lookup t = some (aB b)) (h1 : b = true → L P C n ops Q rest ((t, aB true) :: σ) Ω) (h2 : b = false → L P C n ops Q rest ((t, aB false) :: σ) Ω) : L P C n ops Q rest σ Ω := by
  cases b with
  | true => exact L.setB ht rfl (h1 rfl)
  | false => exact L.setB ht rfl (h2 rfl)

/-- A slice of data is cut. -/
theorem Rc.cut {X : List Nat} {w : World} {b o n c sz i : Nat} {es : List (List D)} (h : Rc X w (.slice (some ⟨b, o, none⟩) n c) (.l sz es)) {j : Nat} (hij : i ≤ j) (hj : j ≤ n) (A : Option Addr) (c' : Nat) (hA : i < j → A = some ⟨b, o + i * sz, none⟩) (hc' : j - i ≤ c') : Rc X w (.slice A (j - i) c') (.l sz ((es.drop i).take (j - i))) := by
  by_cases hlt : i < j
  · cases h with
    | nil => omega
    | l b o n c _ _ cs hn hc hm hb hX hs hcell hrec =>
      rw [hA hlt]
      refine .l b (o + i * sz) (j - i) c' sz _ (fun k l => cs (i + k) l) (by simp; omega) hc' (by omega) hb hX (fun e he => hs e (List.mem_of_mem_drop (List.mem_of_mem_take he))) (fun k l hk hl => ?_) fun k l e d he hd => ?_
      · have := hcell (i + k) l (by omega) hl
        rw [Nat.add_mul] at this
        rw [show o + i * sz + k * sz + l = o + (i * sz + k * sz) + l by omega]
        exact this
      · rw [List.getElem?_take] at he
        split at he
        · exact hrec (i + k) l e d (by simpa using he) hd
        · cases he
  · have : j - i = 0 := by omega
    rw [this]
    simp only [List.take_zero]
    exact Rc.nil _ _ _

/-- x[i:j], x data. -/
theorem L.slL {t e : TypeId} {x : Operand} {lo hi : Option Operand} {sz : Nat} {es : List (List D)} (i j : Nat) (hu : P.underlying t = some (.slice e)) (hsz : (P.info? e).map (·.size) = some sz) (hx : ev σ x = some (aL sz es)) (hlo : bnd σ lo i 0) (hhi : bnd σ hi j es.length) (hij : i ≤ j ∧ j ≤ es.length) (hdn : Nat.blt d n = true)
    (h : L P C n ops Q rest ((d, aL sz ((es.drop i).take (j - i))) :: σ) Ω) : L P C n ops Q ({ dst := some d, op := .slice t x lo hi none, type := ty, pos, after, guard := none } :: rest) σ Ω := by
  obtain ⟨ti, hti, rfl⟩ := Option.map_eq_some_iff.1 hsz
  refine L.pure rfl rfl hdn (fun a w hs ha => ?_) h
  obtain ⟨v, h1, h2⟩ := ha.val hx
  have h2' : Rc (owns Ω ++ C.X) w v (.l ti.size es) := h2
  obtain ⟨A, c, rfl, hm, hl, hA⟩ := Rc.slice_inv h2'
  have hcap : es.length ≤ c ∨ es.length = 0 := by
    generalize hk : es.length = k at h2'
    cases h2' with
    | nil => right; rfl
    | l b o n c _ _ cs hn hc => left; exact hc
  obtain ⟨hij1, hij2⟩ := hij
  have hjc : j ≤ c := by rcases hcap with h3 | h3 <;> omega
  let A' : Option Addr := if c = i then A else A.map (·.add (i * ti.size))
  have hrun : (Instr.sliceAt t (.slice A es.length c) (lo.map a.eval) (hi.map a.eval) none).run P w = .ok (.slice A' (j - i) (c - i)) w := by
    have hb : (Instr.sliceBounds true es.length c (lo.map a.eval) (hi.map a.eval) none).run P w = .ok (i, j, c) w := by
      cases lo with
      | none =>
        have hlo' : i = 0 := hlo
        subst hlo'
        cases hi with
        | none => have hhi' : j = es.length := hhi; subst hhi'; simp [Instr.sliceBounds]
        | some y => obtain ⟨k, hy⟩ := hhi; simp [Instr.sliceBounds, ha.int hy, Instr.sliceBound, asIntOf, hjc]
      | some z =>
        obtain ⟨k', hz⟩ := hlo
        cases hi with
        | none => have hhi' : j = es.length := hhi; subst hhi'; simp [Instr.sliceBounds, ha.int hz, Instr.sliceBound, asIntOf, hij1]
        | some y => obtain ⟨k, hy⟩ := hhi; simp [Instr.sliceBounds, ha.int hy, ha.int hz, Instr.sliceBound, asIntOf, hjc, hij1]
    simp only [Instr.sliceAt, Sem.run_bind, run_underlying hu, Result.andThen_ok, Instr.slice, hb, sizeOf, typeInfo, run_program, hti, Sem.run_pure]
    rfl
  refine ⟨.slice A' (j - i) (c - i), by simp [execOp, h1, hrun], ?_⟩
  by_cases h0 : 0 < es.length
  · obtain ⟨b, o, rfl, _⟩ := hA h0
    refine Rc.cut h2' hij1 hij2 A' (c - i) (fun hlt => ?_) (by omega)
    have : ¬ c = i := by omega
    simp only [A', this, if_false, Option.map_some, Addr.add_lit]
  · have he : es = [] := List.eq_nil_of_length_eq_zero (by omega)
    subst he
    have hj0 : j = 0 := by simpa using hij2
    subst hj0
    simp only [Nat.zero_sub, List.drop_nil, List.take_nil]
    exact Rc.nil _ _ _

end
end Go.Q
namespace Go.Q
open Go
/-- A guard on a slot that holds nothing. -/
theorem L.offU {P : Program} {C : Ctx} {n : Nat} {ops : Array Oper} {Q : Pst} {rest : List Oper} {σ : Env} {Ω : List Ob} {d : Nat} {op : Op} {ty : TypeId} {pos : String} {after : Array Edge} {j dj : Nat} {b : Bool} (hj : (ops[j]?).bind (·.dst) = some dj) (hb : σ.lookup dj = some (.t [])) (hdn : Nat.blt d n = true)
    (h : L P C n ops Q rest ((d, .t []) :: σ) Ω) : L P C n ops Q ({ dst := some d, op, type := ty, pos, after, guard := some (j, b) } :: rest) σ Ω := by
  intro a w hs ha
  obtain ⟨v, hv, us, hr, hu⟩ := ha.get dj _ hb
  have hus : us = [] := by cases us with
    | nil => rfl
    | cons _ _ => exact hu.elim
  subst hus
  subst hr
  refine wpListIn_off ?_ (h _ _ hs (ha.put (bltLt hdn) ⟨[], rfl, trivial⟩))
  simp [Region.wanted, yielded, hj, hv]
end Go.Q
namespace Go.Q
open Go

def frontV : List Oper → List AV → Env
  | o :: r, v :: V => match o.dst with
    | some d => (d, v) :: frontV r V
    | none => frontV r V
  | _, _ => []

def FlowD (P : Program) (C : Ctx) (n : Nat) (l : List Oper) (m : Nat) (σb : Env) (Ωc : List Ob) (V : List AV) (i : Nat) (o : Oper) : Prop :=
  ∀ (σ' : Env) (Ωf : List Ob), Sub σ' σb → (∀ j, ancB l.toArray m i j = true → σ'.lookup (dstAt l j) = V[j]?) →
    L P C n l.toArray (Fin C n (fun x post => V[i]? = some x ∧ post = []) (dstAt l i) σ' (Ωc ++ Ωf)) [o] σ' (Ωc ++ Ωf)

def FlowDs (P : Program) (C : Ctx) (n : Nat) (l : List Oper) (m : Nat) (σb : Env) (Ωc : List Ob) (V : List AV) : Nat → List Oper → Prop
  | _, [] => True
  | i, o :: r => FlowD P C n l m σb Ωc V i o ∧ FlowDs P C n l m σb Ωc V (i + 1) r

section
variable {P : Program} {C : Ctx} {n : Nat} {Q : Pst} {σ : Env} {Ω : List Ob}

theorem FlowDs.flow {l : List Oper} {m : Nat} {σb : Env} {Ωc : List Ob} {V : List AV} : ∀ {r : List Oper} {k : Nat}, FlowDs P C n l m σb Ωc V k r →
    FlowOps P C n l m σb Ωc (fun _ => []) (fun i x _ post => V[i]? = some x ∧ post = []) k r
  | [], _, _ => trivial
  | o :: r, k, ⟨h1, h2⟩ => ⟨fun X posts σ' Ωf hs hA => h1 σ' Ωf hs fun j hj => by obtain ⟨h3, h4, _⟩ := hA j hj; rw [h3, h4], FlowDs.flow h2⟩

theorem frontV_eq : ∀ {l : List Oper} {V : List AV} {k : Nat} {X : Nat → AV}, l.length = V.length → (∀ i, i < l.length → V[i]? = some (X (k + i))) → frontEnv l k X = frontV l V
  | [], [], _, _, _, _ => rfl
  | o :: r, v :: V, k, X, hl, h => by
    have h0 := h 0 (by simp)
    simp at h0
    have ih := frontV_eq (l := r) (V := V) (k := k + 1) (X := X) (by simpa using hl) (fun i hi => by
      have := h (i + 1) (by simpa using hi)
      rw [show k + 1 + i = k + (i + 1) by omega]
      simpa using this)
    subst h0
    simp only [frontEnv, frontV, ih]
    cases o.dst <;> rfl
  | [], _ :: _, _, _, hl, _ => by simp at hl
  | _ :: _, [], _, _, hl, _ => by simp at hl

theorem T.drawD {id : Nat} {l : List Oper} (m : Nat) (σb : Env) (V : List AV) (hm : P.follows .mixedOrders = true) (hml : Nat.ble m l.length = true) (hV : Nat.beq V.length m = true) (hf : frontOk l.toArray m σb = true) (ht : tailOk l.toArray m = true) (hsub : Sub σ σb)
    (hops : FlowDs P C n l m σb Ω V 0 (l.take m))
    (hrest : L P C n l.toArray Q (l.drop m) (frontV (l.take m) V ++ σb) Ω) :
    T P C n Q (.region id l.toArray true) σ Ω := by
  have hml' : m ≤ l.length := by simpa using hml
  have hV' : V.length = m := by simpa using hV
  have hnil : ∀ f : Nat → List Ob, (∀ i, i < m → f i = []) → (List.range m).flatMap f = [] := by
    intro f hf
    rw [List.flatMap_eq_nil_iff]
    intro i hi
    exact hf i (by simpa using hi)
  refine T.draw m σb Ω (fun _ => []) (fun i x _ post => V[i]? = some x ∧ post = []) hm hml hf ht hsub ?_ hops.flow fun X posts hR => ?_
  · rw [hnil _ (fun _ _ => rfl)]; exact List.Perm.refl _
  · rw [hnil posts (fun i hi => (hR i (by simpa using hi)).2), frontV_eq (V := V) (by simp; omega) (fun i hi => by
      have := (hR i (by simp at hi; simp; omega)).1
      rw [Nat.zero_add]; exact this)]
    exact hrest

theorem G.finD {V : List AV} {i d : Nat} {σ' : Env} {Ωr : List Ob} {x : AV} (h : V[i]? = some x) : G C n (Fin C n (fun x post => V[i]? = some x ∧ post = []) d σ' Ωr .normal) ((d, x) :: σ') Ωr :=
  G.fin [] ⟨h, rfl⟩ rfl

end
end Go.Q
namespace Go.Q
open Go
theorem evS_of {σ : Env} {x : Operand} {s : SV} (h : ev σ x = some (.v s)) : evS σ x = some s := by unfold evS; rw [h]
theorem evs1 {σ : Env} {x : Operand} {s : SV} (h : ev σ x = some (.v s)) : evs σ [x] = some [s] := by simp [evs, evS_of h]
theorem evs2 {σ : Env} {x y : Operand} {s t : SV} (h : ev σ x = some (.v s)) (h2 : ev σ y = some (.v t)) : evs σ [x, y] = some [s, t] := by simp [evs, evS_of h, evS_of h2]
theorem evs3 {σ : Env} {x y z : Operand} {s t u : SV} (h : ev σ x = some (.v s)) (h2 : ev σ y = some (.v t)) (h3 : ev σ z = some (.v u)) : evs σ [x, y, z] = some [s, t, u] := by simp [evs, evS_of h, evS_of h2, evS_of h3]
theorem evpC {σ : Env} {x : Operand} {s : SV} {i : Nat} {r : List (Nat × Operand)} {rs : List (Nat × SV)} (h : ev σ x = some (.v s)) (hr : evP σ r = some rs) : evP σ ((i, x) :: r) = some ((i, s) :: rs) := by simp [evP, evS_of h, hr]
theorem evpN {σ : Env} : evP σ [] = some [] := rfl
theorem evp1 {σ : Env} {x : Operand} {s : SV} {i : Nat} (h : ev σ x = some (.v s)) : evP σ [(i, x)] = some [(i, s)] := evpC h evpN
theorem evp2 {σ : Env} {x y : Operand} {s t : SV} {i j : Nat} (h : ev σ x = some (.v s)) (h2 : ev σ y = some (.v t)) : evP σ [(i, x), (j, y)] = some [(i, s), (j, t)] := evpC h (evp1 h2)
end Go.Q
