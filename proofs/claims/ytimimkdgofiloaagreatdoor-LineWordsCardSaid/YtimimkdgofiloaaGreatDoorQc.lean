/- One rule for each kind of operation that only computes or reads. -/
import Derived.Test.YtimimkdgofiloaaGreatDoorQb
import Derived.WalkSpells
import Derived.WalkLawsBesides
namespace Go.Q
open Go

/-- Bytes as a list. -/
theorem bytes_toList (s : ByteArray) : s.toList = s.data.toList := by
  have h : ∀ (n : Nat) (i : Nat) (r : List UInt8), s.size - i = n → ByteArray.toList.loop s i r = r.reverse ++ s.data.toList.drop i := by
    intro n
    induction n with
    | zero =>
      intro i r hi
      unfold ByteArray.toList.loop
      rw [if_neg (by omega)]
      have hl : s.data.toList.length = s.size := by simp
      rw [List.drop_eq_nil_of_le (by omega)]
      simp
    | succ n ih =>
      intro i r hi
      unfold ByteArray.toList.loop
      rw [if_pos (by omega), ih (i + 1) _ (by omega)]
      have hl : s.data.toList.length = s.size := by simp
      have hlt : i < s.data.toList.length := by omega
      rw [List.drop_eq_getElem_cons hlt]
      have hg : s.get! i = s.data.toList[i] := by
        have hi' : i < s.data.size := by simpa using hlt
        simp only [ByteArray.get!, Array.getElem_toList]
        exact getElem!_pos s.data i hi'
      rw [hg]
      simp
  have := h s.size 0 [] (by omega)
  simpa [ByteArray.toList] using this

theorem bytes_eq (x y : ByteArray) : (x.toList == y.toList) = decide (x = y) := by
  rw [bytes_toList, bytes_toList]
  by_cases h : x = y
  · subst h; simp
  · simp only [h, decide_false]
    rw [beq_eq_false_iff_ne]
    intro e
    apply h
    cases x; cases y
    simp at e
    simp [e]

section
variable {P : Program} {C : Ctx} {n : Nat} {ops : Array Oper} {Q : Pst} {rest : List Oper} {σ σ' : Env} {Ω Ω' : List Ob} {d : Nat} {ty : TypeId} {pos : String} {after : Array Edge}

theorem L.mv {x : Operand} {y : AV} (hx : ev σ x = some y) (hdn : Nat.blt d n = true) (h : L P C n ops Q rest ((d, y) :: σ) Ω) :
    L P C n ops Q ({ dst := some d, op := .move x, type := ty, pos, after, guard := none } :: rest) σ Ω :=
  L.pure rfl rfl hdn (fun _ _ _ ha => let ⟨v, h1, h2⟩ := ha.val hx; ⟨v, by simp [execOp, h1], h2⟩) h

theorem L.as {x : Operand} {y : AV} (hx : ev σ x = some y) (hdn : Nat.blt d n = true) (h : L P C n ops Q rest ((d, y) :: σ) Ω) :
    L P C n ops Q ({ dst := some d, op := .assign x, type := ty, pos, after, guard := none } :: rest) σ Ω :=
  L.pure rfl rfl hdn (fun _ _ _ ha => let ⟨v, h1, h2⟩ := ha.val hx; ⟨v, by simp [execOp, h1], h2⟩) h

/-- The nil slice, as data. -/
theorem Rav.nil {Y : List Nat} {w : World} (sz : Nat) : Rav Y w (.slice none 0 0) (.v (.c (.d (.l sz [])))) := Rc.nil none 0 sz

theorem L.asNil (sz : Nat) (hdn : Nat.blt d n = true) (h : L P C n ops Q rest ((d, .v (.c (.d (.l sz [])))) :: σ) Ω) :
    L P C n ops Q ({ dst := some d, op := .assign (.const (.slice none 0 0)), type := ty, pos, after, guard := none } :: rest) σ Ω :=
  L.pure rfl rfl hdn (fun _ _ _ _ => ⟨_, rfl, Rav.nil sz⟩) h

theorem Rc.int_inv {X : List Nat} {w : World} {v : Value} {k : IntKind} {m : Int} (h : Rc X w v (.i k m)) : v = .int k m := by cases h; rfl
theorem Rc.bool_inv {X : List Nat} {w : World} {v : Value} {m : Bool} (h : Rc X w v (.b m)) : v = .bool m := by cases h; rfl
theorem Rc.str_inv {X : List Nat} {w : World} {v : Value} {m : ByteArray} (h : Rc X w v (.s m)) : v = .string m := by cases h; rfl

abbrev aI (k : IntKind) (m : Int) : AV := .v (.c (.d (.i k m)))
abbrev aN (m : Int) : AV := .v (.c (.d (.i .i64 m)))
abbrev aB (b : Bool) : AV := .v (.c (.d (.b b)))
abbrev aS (s : ByteArray) : AV := .v (.c (.d (.s s)))
abbrev aL (sz : Nat) (es : List (List D)) : AV := .v (.c (.d (.l sz es)))
abbrev aP (b o : Nat) : AV := .v (.c (.p b o))
abbrev aD (x : D) : AV := .v (.c (.d x))
abbrev aR (v : Value) : AV := .v (.c (.r v))

theorem Has.int {n : Nat} {ds : List Deferred} {Y : List Nat} {w : World} {a : Act} (ha : Has n ds Y w a σ) {x : Operand} {k : IntKind} {m : Int} (hx : ev σ x = some (aI k m)) : a.eval x = .int k m := by
  obtain ⟨v, h1, h2⟩ := ha.val hx
  rw [h1]; exact Rc.int_inv h2
theorem Has.bool {n : Nat} {ds : List Deferred} {Y : List Nat} {w : World} {a : Act} (ha : Has n ds Y w a σ) {x : Operand} {m : Bool} (hx : ev σ x = some (aB m)) : a.eval x = .bool m := by
  obtain ⟨v, h1, h2⟩ := ha.val hx
  rw [h1]; exact Rc.bool_inv h2
theorem Has.str {n : Nat} {ds : List Deferred} {Y : List Nat} {w : World} {a : Act} (ha : Has n ds Y w a σ) {x : Operand} {m : ByteArray} (hx : ev σ x = some (aS m)) : a.eval x = .string m := by
  obtain ⟨v, h1, h2⟩ := ha.val hx
  rw [h1]; exact Rc.str_inv h2
theorem Has.ptr {n : Nat} {ds : List Deferred} {Y : List Nat} {w : World} {a : Act} (ha : Has n ds Y w a σ) {x : Operand} {b o : Nat} (hx : ev σ x = some (aP b o)) : a.eval x = .pointer (some ⟨b, o, none⟩) := by
  obtain ⟨v, h1, h2⟩ := ha.val hx
  rw [h1]; exact h2
theorem Has.raw {n : Nat} {ds : List Deferred} {Y : List Nat} {w : World} {a : Act} (ha : Has n ds Y w a σ) {x : Operand} {u : Value} (hx : ev σ x = some (aR u)) : a.eval x = u := by
  obtain ⟨v, h1, h2⟩ := ha.val hx
  rw [h1]; exact h2.1

theorem rI {Y : List Nat} {w : World} {k : IntKind} {m : Int} : Rav Y w (.int k m) (aI k m) := Rc.i k m
theorem rB {Y : List Nat} {w : World} {m : Bool} : Rav Y w (.bool m) (aB m) := Rc.b m
theorem rS {Y : List Nat} {w : World} {m : ByteArray} : Rav Y w (.string m) (aS m) := Rc.s m
theorem rP {Y : List Nat} {w : World} {b o : Nat} : Rav Y w (.pointer (some ⟨b, o, none⟩)) (aP b o) := rfl

/-! ### Choice -/
theorem L.pkT {c x y : Operand} {z : AV} (hc : ev σ c = some (aB true)) (hx : ev σ x = some z) (hdn : Nat.blt d n = true) (h : L P C n ops Q rest ((d, z) :: σ) Ω) :
    L P C n ops Q ({ dst := some d, op := .pick c x y, type := ty, pos, after, guard := none } :: rest) σ Ω :=
  L.pure rfl rfl hdn (fun _ _ _ ha => let ⟨v, h1, h2⟩ := ha.val hx; ⟨v, by simp [execOp, ha.bool hc, asBool, h1], h2⟩) h
theorem L.pkF {c x y : Operand} {z : AV} (hc : ev σ c = some (aB false)) (hy : ev σ y = some z) (hdn : Nat.blt d n = true) (h : L P C n ops Q rest ((d, z) :: σ) Ω) :
    L P C n ops Q ({ dst := some d, op := .pick c x y, type := ty, pos, after, guard := none } :: rest) σ Ω :=
  L.pure rfl rfl hdn (fun _ _ _ ha => let ⟨v, h1, h2⟩ := ha.val hy; ⟨v, by simp [execOp, ha.bool hc, asBool, h1], h2⟩) h

/-! ### Numbers -/
def cmpI : BinOp → Int → Int → Option Bool
  | .eql, a, b => some (a == b)
  | .neq, a, b => some (a != b)
  | .lss, a, b => some (decide (a < b))
  | .leq, a, b => some (decide (a ≤ b))
  | .gtr, a, b => some (decide (b < a))
  | .geq, a, b => some (decide (b ≤ a))
  | _, _, _ => none

theorem L.cmp {op : BinOp} {t u : TypeId} {x y : Operand} {k : IntKind} {a b : Int} {r : Bool} (hx : ev σ x = some (aI k a)) (hy : ev σ y = some (aI k b)) (hr : cmpI op a b = some r) (hdn : Nat.blt d n = true)
    (h : L P C n ops Q rest ((d, aB r) :: σ) Ω) : L P C n ops Q ({ dst := some d, op := .binOp op t x y u, type := ty, pos, after, guard := none } :: rest) σ Ω := by
  refine L.pure rfl rfl hdn (fun a' w hs ha => ⟨.bool r, ?_, rB⟩) h
  have e1 := ha.int hx
  have e2 := ha.int hy
  cases op <;> simp [cmpI] at hr <;> subst hr <;> simp [execOp, e1, e2, eqGuard, binOp, Op.intCmp]

def arI : BinOp → Int → Int → Option Int
  | .add, a, b => some (a + b)
  | .sub, a, b => some (a - b)
  | .mul, a, b => some (a * b)
  | _, _, _ => none

theorem wrap64_in {m : Int} (h1 : -9223372036854775808 ≤ m) (h2 : m ≤ 9223372036854775807) : IntKind.i64.wrap m = m := by rw [IntKind.wrap_i64]; omega

theorem L.ar (z : Int) {op : BinOp} {t u : TypeId} {x y : Operand} {a b c : Int} (hx : ev σ x = some (aN a)) (hy : ev σ y = some (aN b)) (hr : arI op a b = some c) (hz : c = z ∧ -9223372036854775808 ≤ z ∧ z ≤ 9223372036854775807) (hdn : Nat.blt d n = true)
    (h : L P C n ops Q rest ((d, aN z) :: σ) Ω) : L P C n ops Q ({ dst := some d, op := .binOp op t x y u, type := ty, pos, after, guard := none } :: rest) σ Ω := by
  refine L.pure rfl rfl hdn (fun a' w hs ha => ⟨.int .i64 z, ?_, rI⟩) h
  have e1 := ha.int hx
  have e2 := ha.int hy
  obtain ⟨rfl, h1, h2⟩ := hz
  have hw := wrap64_in h1 h2
  cases op <;> simp [arI] at hr <;> subst hr <;> simp [execOp, e1, e2, eqGuard, binOp, Op.intArith, hw]

theorem L.not {t : TypeId} {x : Operand} {b : Bool} (hx : ev σ x = some (aB b)) (hdn : Nat.blt d n = true) (h : L P C n ops Q rest ((d, aB (!b)) :: σ) Ω) :
    L P C n ops Q ({ dst := some d, op := .unOp .not t x, type := ty, pos, after, guard := none } :: rest) σ Ω :=
  L.pure rfl rfl hdn (fun _ _ _ ha => ⟨.bool (!b), by simp [execOp, ha.bool hx, Op.unary], rB⟩) h

theorem L.min2 {t u : TypeId} {x y : Operand} {k : IntKind} {a b : Int} (hx : ev σ x = some (aI k a)) (hy : ev σ y = some (aI k b)) (hdn : Nat.blt d n = true)
    (h : L P C n ops Q rest ((d, aI k (if b < a then b else a)) :: σ) Ω) : L P C n ops Q ({ dst := some d, op := .call { callee := .builtin .min, args := #[x, y], argTypes := #[t, u] }, type := ty, pos, after, guard := none } :: rest) σ Ω := by
  refine L.pure rfl rfl hdn (fun a' w hs ha => ⟨.int k (if b < a then b else a), ?_, rI⟩) h
  simp [execOp, resolve, invoke, builtin, ha.int hx, ha.int hy, Builtin.min_, Builtin.min2]

/-! ### Strings -/
theorem L.lenS {t : TypeId} {x : Operand} {s : ByteArray} (hu : P.underlying t = some .string) (hx : ev σ x = some (aS s)) (hdn : Nat.blt d n = true) (h : L P C n ops Q rest ((d, aN s.size) :: σ) Ω) :
    L P C n ops Q ({ dst := some d, op := .call { callee := .builtin .len, args := #[x], argTypes := #[t] }, type := ty, pos, after, guard := none } :: rest) σ Ω :=
  L.pure rfl rfl hdn (fun _ _ _ ha => ⟨.int .i64 s.size, by simp [execOp, resolve, invoke, builtin, Builtin.len_, run_underlying hu, ha.str hx, goInt], rI⟩) h

theorem L.eqS {t u : TypeId} {x y : Operand} {a b : ByteArray} (hx : ev σ x = some (aS a)) (hy : ev σ y = some (aS b)) (hdn : Nat.blt d n = true)
    (h : L P C n ops Q rest ((d, aB (decide (a = b))) :: σ) Ω) : L P C n ops Q ({ dst := some d, op := .binOp .eql t x y u, type := ty, pos, after, guard := none } :: rest) σ Ω :=
  L.pure rfl rfl hdn (fun _ _ _ ha => ⟨.bool (decide (a = b)), by simp [execOp, ha.str hx, ha.str hy, eqGuard, binOp, Op.stringOp, bytes_eq], rB⟩) h
theorem L.neS {t u : TypeId} {x y : Operand} {a b : ByteArray} (hx : ev σ x = some (aS a)) (hy : ev σ y = some (aS b)) (hdn : Nat.blt d n = true)
    (h : L P C n ops Q rest ((d, aB (!decide (a = b))) :: σ) Ω) : L P C n ops Q ({ dst := some d, op := .binOp .neq t x y u, type := ty, pos, after, guard := none } :: rest) σ Ω :=
  L.pure rfl rfl hdn (fun _ _ _ ha => ⟨.bool (!decide (a = b)), by simp [execOp, ha.str hx, ha.str hy, eqGuard, binOp, Op.stringOp, bytes_eq], rB⟩) h
theorem L.ltS {t u : TypeId} {x y : Operand} {a b : ByteArray} (hx : ev σ x = some (aS a)) (hy : ev σ y = some (aS b)) (hdn : Nat.blt d n = true)
    (h : L P C n ops Q rest ((d, aB (Op.bytesLess a.data.toList b.data.toList)) :: σ) Ω) : L P C n ops Q ({ dst := some d, op := .binOp .lss t x y u, type := ty, pos, after, guard := none } :: rest) σ Ω :=
  L.pure rfl rfl hdn (fun _ _ _ ha => ⟨.bool (Op.bytesLess a.data.toList b.data.toList), by simp [execOp, ha.str hx, ha.str hy, eqGuard, binOp, Op.stringOp, bytes_toList], rB⟩) h
theorem L.gtS {t u : TypeId} {x y : Operand} {a b : ByteArray} (hx : ev σ x = some (aS a)) (hy : ev σ y = some (aS b)) (hdn : Nat.blt d n = true)
    (h : L P C n ops Q rest ((d, aB (!(Op.bytesLess a.data.toList b.data.toList || decide (a = b)))) :: σ) Ω) : L P C n ops Q ({ dst := some d, op := .binOp .gtr t x y u, type := ty, pos, after, guard := none } :: rest) σ Ω :=
  L.pure rfl rfl hdn (fun _ _ _ ha => ⟨.bool (!(Op.bytesLess a.data.toList b.data.toList || decide (a = b))), by simp [execOp, ha.str hx, ha.str hy, eqGuard, binOp, Op.stringOp, bytes_toList, ← bytes_eq], rB⟩) h
theorem L.addS {t u : TypeId} {x y : Operand} {a b : ByteArray} (hx : ev σ x = some (aS a)) (hy : ev σ y = some (aS b)) (hb : a.size + b.size ≤ 9223372036854775807) (hdn : Nat.blt d n = true)
    (h : L P C n ops Q rest ((d, aS (a ++ b)) :: σ) Ω) : L P C n ops Q ({ dst := some d, op := .binOp .add t x y u, type := ty, pos, after, guard := none } :: rest) σ Ω := by
  refine L.pure rfl rfl hdn (fun a' w hs ha => ⟨.string (a ++ b), ?_, rS⟩) h
  have hm : (a.size : Int) + (b.size : Int) ≤ 9223372036854775807 := by omega
  simp [execOp, ha.str hx, ha.str hy, eqGuard, binOp, Op.stringOp, hm]

theorem L.ixS {t : TypeId} {x i : Operand} {s : ByteArray} {k : IntKind} {m : Int} (j : Nat) (hu : P.underlying t = some .string) (hx : ev σ x = some (aS s)) (hi : ev σ i = some (aI k m)) (hm : m = (j : Int)) (hj : j < s.size) (hdn : Nat.blt d n = true)
    (h : L P C n ops Q rest ((d, aI .u8 (s[j].toNat : Int)) :: σ) Ω) : L P C n ops Q ({ dst := some d, op := .index t x i, type := ty, pos, after, guard := none } :: rest) σ Ω := by
  refine L.pure rfl rfl hdn (fun a' w hs ha => ⟨.int .u8 (s[j].toNat : Int), ?_, rI⟩) h
  subst hm
  simp [execOp, Instr.index, ha.str hx, ha.int hi, run_underlying hu, asIntOf, hj]

/-- s[a:b]: which bounds are written is said by 'lo', 'hi'. -/
def bnd (σ : Env) : Option Operand → Nat → Nat → Prop
  | none, r, dflt => r = dflt
  | some x, r, _ => ∃ k : IntKind, ev σ x = some (aI k (r : Int))

theorem L.slS {t : TypeId} {x : Operand} {lo hi : Option Operand} {s : ByteArray} (a b : Nat) (hu : P.underlying t = some .string) (hx : ev σ x = some (aS s)) (hlo : bnd σ lo a 0) (hhi : bnd σ hi b s.size) (hab : a ≤ b ∧ b ≤ s.size) (hdn : Nat.blt d n = true)
    (h : L P C n ops Q rest ((d, aS (s.extract a b)) :: σ) Ω) : L P C n ops Q ({ dst := some d, op := .slice t x lo hi none, type := ty, pos, after, guard := none } :: rest) σ Ω := by
  refine L.pure rfl rfl hdn (fun a' w hs ha => ⟨.string (s.extract a b), ?_, rS⟩) h
  obtain ⟨h1, h2⟩ := hab
  have e := ha.str hx
  cases lo with
  | none =>
    have hlo' : a = 0 := hlo
    subst hlo'
    cases hi with
    | none =>
      have hhi' : b = s.size := hhi
      subst hhi'
      simp [execOp, Instr.sliceAt, Instr.slice, run_underlying hu, e, Instr.sliceBounds]
    | some y =>
      obtain ⟨k, hy⟩ := hhi
      simp [execOp, Instr.sliceAt, Instr.slice, run_underlying hu, e, Instr.sliceBounds, ha.int hy, Instr.sliceBound, asIntOf, h2]
  | some y =>
    obtain ⟨k, hy⟩ := hlo
    cases hi with
    | none =>
      have hhi' : b = s.size := hhi
      subst hhi'
      simp [execOp, Instr.sliceAt, Instr.slice, run_underlying hu, e, Instr.sliceBounds, ha.int hy, Instr.sliceBound, asIntOf, h1]
    | some z =>
      obtain ⟨k', hz⟩ := hhi
      simp [execOp, Instr.sliceAt, Instr.slice, run_underlying hu, e, Instr.sliceBounds, ha.int hy, ha.int hz, Instr.sliceBound, asIntOf, h1, h2]

/-! ### Tuples, structs by value -/
theorem L.ex {x : Operand} {i : Nat} {xs : List SV} {y : SV} (hx : ev σ x = some (.t xs)) (hi : xs[i]? = some y) (hdn : Nat.blt d n = true) (h : L P C n ops Q rest ((d, .v y) :: σ) Ω) :
    L P C n ops Q ({ dst := some d, op := .extract x i, type := ty, pos, after, guard := none } :: rest) σ Ω := by
  refine L.pure rfl rfl hdn (fun a w hs ha => ?_) h
  obtain ⟨v, h1, us, rfl, h2⟩ := ha.val hx
  obtain ⟨u, hu, hr⟩ := h2.get hi
  exact ⟨u, by simp [execOp, h1, Instr.extract, hu], hr⟩

/-! ### Slices of data -/
theorem Rc.slice_inv {X : List Nat} {w : World} {v : Value} {sz : Nat} {es : List (List D)} (h : Rc X w v (.l sz es)) :
    ∃ A c, v = .slice A es.length c ∧ es.length ≤ maxLen ∧ (∀ e ∈ es, e.length = sz) ∧ (0 < es.length → ∃ b o, A = some ⟨b, o, none⟩ ∧ b < w.heap.size ∧ b ∉ X ∧
      ∀ (i : Nat) (e : List D), es[i]? = some e → Ri X w b (o + i * sz) e) := by
  cases h with
  | nil a c => exact ⟨a, c, rfl, by simp, by simp, fun h => by simp at h⟩
  | l b o n c _ _ cs hn hc hm hb hX hs hcell hrec =>
    subst hn
    refine ⟨_, c, rfl, hm, hs, fun _ => ⟨b, o, rfl, hb, hX, fun i e he => ⟨hb, hX, (List.range sz).map (cs i), ?_, ?_⟩⟩⟩
    · intro j u hu
      have hj : j < sz := by
        have := (List.getElem?_eq_some_iff.1 hu).1
        simpa using this
      have hi : i < es.length := (List.getElem?_eq_some_iff.1 he).1
      simp [hj] at hu
      subst hu
      exact hcell i j hi hj
    · have hl : e.length = sz := hs e (List.mem_of_getElem? he)
      refine All2.of_get (by simp [hl]) fun j u y hu hy => ?_
      have hj : j < sz := by
        have := (List.getElem?_eq_some_iff.1 hu).1
        simpa using this
      simp [hj] at hu
      subst hu
      exact hrec i j e y he hy

theorem L.lenL {t e : TypeId} {x : Operand} {sz : Nat} {es : List (List D)} (hu : P.underlying t = some (.slice e)) (hx : ev σ x = some (aL sz es)) (hdn : Nat.blt d n = true) (h : es.length ≤ 9223372036854775807 → L P C n ops Q rest ((d, aN es.length) :: σ) Ω) :
    L P C n ops Q ({ dst := some d, op := .call { callee := .builtin .len, args := #[x], argTypes := #[t] }, type := ty, pos, after, guard := none } :: rest) σ Ω := by
  intro a w hs ha
  obtain ⟨v, h1, h2⟩ := ha.val hx
  obtain ⟨A, c, rfl, hm, _⟩ := Rc.slice_inv h2
  refine L.pure (x := aN es.length) rfl rfl hdn (fun a w hs ha => ?_) (h (by simpa [maxLen] using hm)) a w hs ha
  obtain ⟨v, h1, h2⟩ := ha.val hx
  obtain ⟨A, c, rfl, hm, _⟩ := Rc.slice_inv h2
  exact ⟨.int .i64 es.length, by simp [execOp, resolve, invoke, builtin, Builtin.len_, run_underlying hu, h1, goInt], rI⟩

theorem L.ixL {t e : TypeId} {x i : Operand} {sz : Nat} {es : List (List D)} {k : IntKind} {m : Int} (j : Nat) (y : List D) (hu : P.underlying t = some (.slice e)) (hsz : (P.info? e).map (·.size) = some sz) (hx : ev σ x = some (aL sz es)) (hi : ev σ i = some (aI k m)) (hm : m = (j : Int)) (hj : es[j]? = some y) (hdn : Nat.blt d n = true)
    (h : L P C n ops Q rest ((d, .v (.c (.ip y))) :: σ) Ω) : L P C n ops Q ({ dst := some d, op := .indexAddr t x i, type := ty, pos, after, guard := none } :: rest) σ Ω := by
  refine L.pure rfl rfl hdn (fun a w hs ha => ?_) h
  obtain ⟨v, h1, h2⟩ := ha.val hx
  obtain ⟨A, c, rfl, _, _, hA⟩ := Rc.slice_inv h2
  have hlt : j < es.length := (List.getElem?_eq_some_iff.1 hj).1
  obtain ⟨b, o, rfl, hb, hX, hri⟩ := hA (by omega)
  subst hm
  obtain ⟨ti, hti, rfl⟩ := Option.map_eq_some_iff.1 hsz
  refine ⟨.pointer (some ⟨b, o + j * ti.size, none⟩), ?_, b, o + j * ti.size, rfl, hri j y hj⟩
  simp [execOp, Instr.indexAt, h1, ha.int hi, asIntOf, run_underlying hu, hlt, sizeOf, typeInfo, hti, Addr.add_lit]

/-! ### Addresses and loads -/
theorem L.fa {s : TypeId} {x : Operand} {f : Nat} {b o : Nat} {fs : Array Field} {fd : Field} {m : Nat} (hu : P.underlying s = some (.struct fs)) (hf : fs[f]? = some fd) (hsz : (P.info? fd.type).map (·.size) = some (m + 1)) (hx : ev σ x = some (aP b o)) (hdn : Nat.blt d n = true)
    (h : L P C n ops Q rest ((d, aP b (o + fd.offset)) :: σ) Ω) : L P C n ops Q ({ dst := some d, op := .fieldAddr s x f, type := ty, pos, after, guard := none } :: rest) σ Ω := by
  obtain ⟨ti, hti, hti'⟩ := Option.map_eq_some_iff.1 hsz
  refine L.pure rfl rfl hdn (fun a w hs ha => ⟨.pointer (some ⟨b, o + fd.offset, none⟩), ?_, rP⟩) h
  simp [execOp, Instr.fieldAt, run_underlying hu, hf, ha.ptr hx, Instr.sureAddr, fieldPlace, sizeOf, typeInfo, hti, hti', Addr.add_lit]

theorem Ri.drop {X : List Nat} {w : World} {b o : Nat} {cs : List D} (k : Nat) (h : Ri X w b o cs) : Ri X w b (o + k) (cs.drop k) := by
  obtain ⟨hb, hX, us, hc, ha⟩ := h
  refine ⟨hb, hX, us.drop k, fun j u hu => ?_, ha.drop k⟩
  rw [Nat.add_assoc]
  exact hc (k + j) u (by simpa using hu)

theorem L.fi {s : TypeId} {x : Operand} {f : Nat} {cs : List D} {fs : Array Field} {fd : Field} {m : Nat} (hu : P.underlying s = some (.struct fs)) (hf : fs[f]? = some fd) (hsz : (P.info? fd.type).map (·.size) = some (m + 1)) (hx : ev σ x = some (.v (.c (.ip cs)))) (hdn : Nat.blt d n = true)
    (h : L P C n ops Q rest ((d, .v (.c (.ip (cs.drop fd.offset)))) :: σ) Ω) : L P C n ops Q ({ dst := some d, op := .fieldAddr s x f, type := ty, pos, after, guard := none } :: rest) σ Ω := by
  obtain ⟨ti, hti, hti'⟩ := Option.map_eq_some_iff.1 hsz
  refine L.pure rfl rfl hdn (fun a w hs ha => ?_) h
  obtain ⟨v, h1, b, o, rfl, hri⟩ := ha.val hx
  refine ⟨.pointer (some ⟨b, o + fd.offset, none⟩), ?_, b, _, rfl, hri.drop _⟩
  simp [execOp, Instr.fieldAt, run_underlying hu, hf, h1, Instr.sureAddr, fieldPlace, sizeOf, typeInfo, hti, hti', Addr.add_lit]

theorem L.nilck {x : Operand} {b o : Nat} (hx : ev σ x = some (aP b o)) (hdn : Nat.blt d n = true) (h : L P C n ops Q rest ((d, aP b o) :: σ) Ω) :
    L P C n ops Q ({ dst := some d, op := .nilCheck x, type := ty, pos, after, guard := none } :: rest) σ Ω :=
  L.pure rfl rfl hdn (fun _ _ _ ha => ⟨_, by simp [execOp, ha.ptr hx], rP⟩) h

/-- Is a type of one cell? -/
def one (P : Program) (t : TypeId) : Bool :=
  match P.underlying t with
  | some (.struct _) | some (.array _ _) | none => false
  | _ => true
def agg (P : Program) (t : TypeId) : Bool :=
  match P.underlying t with
  | some (.struct _) | some (.array _ _) => true
  | _ => false

theorem run_isAgg_one {t : TypeId} (h : one P t = true) (w : World) : (isAgg t).run P w = .ok false w := by
  unfold one at h
  cases hd : P.underlying t with
  | none => simp [hd] at h
  | some d => cases d <;> simp [hd] at h <;> simp [isAgg, run_underlying hd]
theorem run_isAgg_agg {t : TypeId} (h : agg P t = true) (w : World) : (isAgg t).run P w = .ok true w := by
  unfold agg at h
  cases hd : P.underlying t with
  | none => simp [hd] at h
  | some d => cases d <;> simp [hd] at h <;> simp [isAgg, run_underlying hd]

/-- The own block at a place of the list. -/
theorem St.blk {C : Ctx} {Ω : List Ob} {w : World} (hs : St C Ω w) {i b : Nat} {T : TypeId} {cs : List CV} (hi : Ω[i]? = some (.blk b T cs)) :
    ∃ us : List Value, w.heap[b]? = some (.cells us.toArray T (0, 0)) ∧ All2 (Rcv (owns Ω ++ C.X) w) us cs := hs.obs _ (List.mem_of_getElem? hi)

/-- A load of one cell out of an own block. -/
theorem L.ld {t : TypeId} {x : Operand} {b o : Nat} {T : TypeId} {cs : List CV} {y : CV} (i : Nat) (h1 : one P t = true) (hx : ev σ x = some (aP b o)) (hi : Ω[i]? = some (.blk b T cs)) (hy : cs[o]? = some y) (hdn : Nat.blt d n = true)
    (h : L P C n ops Q rest ((d, .v (.c y)) :: σ) Ω) : L P C n ops Q ({ dst := some d, op := .load t x, type := ty, pos, after, guard := none } :: rest) σ Ω := by
  refine L.pure rfl rfl hdn (fun a w hs ha => ?_) h
  obtain ⟨us, hb, hc⟩ := hs.blk hi
  obtain ⟨u, hu, hr⟩ := hc.get hy
  have hcell : w.cell? ⟨b, o, none⟩ = some u := by rw [cell_of_row w b o us.toArray T (0, 0) hb]; simpa using hu
  refine ⟨u, ?_, hr⟩
  simp [execOp, Instr.loadAt, ha.ptr hx, Instr.sureAddr, loadVar, run_isAgg_one h1, hcell]

/-- A load of one cell of data. -/
theorem L.li {t : TypeId} {x : Operand} {y : D} {cs : List D} (h1 : one P t = true) (hx : ev σ x = some (.v (.c (.ip (y :: cs))))) (hdn : Nat.blt d n = true)
    (h : L P C n ops Q rest ((d, aD y) :: σ) Ω) : L P C n ops Q ({ dst := some d, op := .load t x, type := ty, pos, after, guard := none } :: rest) σ Ω := by
  refine L.pure rfl rfl hdn (fun a w hs ha => ?_) h
  obtain ⟨v, hv, b, o, rfl, hb, hX, us, hc, ha2⟩ := ha.val hx
  obtain ⟨u, hu, hr⟩ := ha2.get (i := 0) (b := y) rfl
  have hcell : w.cell? ⟨b, o, none⟩ = some u := by simpa using hc 0 u hu
  refine ⟨u, ?_, hr⟩
  simp [execOp, Instr.loadAt, hv, Instr.sureAddr, loadVar, run_isAgg_one h1, hcell]

theorem run_loadVar_agg {t : TypeId} {sz : Nat} (h1 : agg P t = true) (hsz : (P.info? t).map (·.size) = some sz) {w : World} {b o : Nat} {us : List Value} (hl : us.length = sz) (hc : ∀ j u, us[j]? = some u → w.cell? ⟨b, o + j, none⟩ = some u) :
    (loadVar t ⟨b, o, none⟩).run P w = .ok (.agg us.toArray) w := by
  obtain ⟨ti, hti, rfl⟩ := Option.map_eq_some_iff.1 hsz
  have := run_loadCells_list (P := P) w ⟨b, o, none⟩ us (fun j v hv => by rw [Addr.add_lit]; exact hc j v hv)
  rw [hl] at this
  simp [loadVar, run_isAgg_agg h1, sizeOf, typeInfo, hti, this]

/-- A load of a struct out of an own block. -/
theorem L.ldg {t : TypeId} {sz : Nat} {x : Operand} {b o : Nat} {T : TypeId} {cs ys : List CV} (i : Nat) (h1 : agg P t = true) (hsz : (P.info? t).map (·.size) = some sz) (hx : ev σ x = some (aP b o)) (hi : Ω[i]? = some (.blk b T cs)) (hy : (cs.drop o).take sz = ys) (hl : ys.length = sz) (hdn : Nat.blt d n = true)
    (h : L P C n ops Q rest ((d, .v (.g ys)) :: σ) Ω) : L P C n ops Q ({ dst := some d, op := .load t x, type := ty, pos, after, guard := none } :: rest) σ Ω := by
  refine L.pure rfl rfl hdn (fun a w hs ha => ?_) h
  obtain ⟨us, hb, hc⟩ := hs.blk hi
  have hc' : All2 (Rcv (owns Ω ++ C.X) w) ((us.drop o).take sz) ys := by rw [← hy]; exact (hc.drop o).take sz
  refine ⟨.agg ((us.drop o).take sz).toArray, ?_, _, rfl, hc'⟩
  have hr := run_loadVar_agg (P := P) (w := w) (b := b) (o := o) (us := (us.drop o).take sz) h1 hsz (by rw [hc'.length, hl]) (fun j u hu => by
    rw [cell_of_row w b (o + j) us.toArray T (0, 0) hb]
    rw [List.getElem?_take] at hu
    split at hu
    · simpa using hu
    · simp at hu)
  simp [execOp, Instr.loadAt, ha.ptr hx, Instr.sureAddr, hr]

/-- A load of a struct of data. -/
theorem L.lig {t : TypeId} {sz : Nat} {x : Operand} {cs ys : List D} (h1 : agg P t = true) (hsz : (P.info? t).map (·.size) = some sz) (hx : ev σ x = some (.v (.c (.ip cs)))) (hy : cs.take sz = ys) (hl : ys.length = sz) (hdn : Nat.blt d n = true)
    (h : L P C n ops Q rest ((d, .v (.g (ys.map .d))) :: σ) Ω) : L P C n ops Q ({ dst := some d, op := .load t x, type := ty, pos, after, guard := none } :: rest) σ Ω := by
  refine L.pure rfl rfl hdn (fun a w hs ha => ?_) h
  obtain ⟨v, hv, b, o, rfl, hb, hX, us, hc, ha2⟩ := ha.val hx
  have hc' : All2 (Rc (owns Ω ++ C.X) w) (us.take sz) ys := by rw [← hy]; exact ha2.take sz
  have hmap : ∀ {l : List Value} {m : List D}, All2 (Rc (owns Ω ++ C.X) w) l m → All2 (Rcv (owns Ω ++ C.X) w) l (m.map .d) := by
    intro l
    induction l with
    | nil => intro m hm; cases m <;> first | trivial | exact hm.elim
    | cons a l ih => intro m hm; cases m <;> first | exact hm.elim | exact ⟨hm.1, ih hm.2⟩
  refine ⟨.agg (us.take sz).toArray, ?_, _, rfl, hmap hc'⟩
  have hr := run_loadVar_agg (P := P) (w := w) (b := b) (o := o) (us := us.take sz) h1 hsz (by rw [hc'.length, hl]) (fun j u hu => by
    rw [List.getElem?_take] at hu
    split at hu
    · exact hc j u hu
    · simp at hu)
  simp [execOp, Instr.loadAt, hv, Instr.sureAddr, hr]

end
end Go.Q
