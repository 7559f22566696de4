/- A string's iterator, arrays of bools, conversions, an entry of the model's; scopes with labels. A region that draws, each of whose first operations yields a known value and turns known owned things into known ones. append onto a slice without room that was written out empty. -/
import Derived.Test.YtimimkdgofiloaaGreatDoorQi
import Derived.Laws.RangeAny
import Derived.Laws.Runes
import Derived.Scope
import Derived.Lib.OthersKept
import Derived.Lib.IndexLaws
import Derived.Lib.Bytealg
namespace Go.Q
open Go
section
variable {P : Program} {C : Ctx} {n : Nat} {ops : Array Oper} {Q : Pst} {rest : List Oper} {σ : Env} {Ω : List Ob} {d : Nat} {ty : TypeId} {pos : String} {after : Array Edge}

theorem Ctx.wide {C : Ctx} (hr : C.r = none) : C.F = Fence.wide := by
  unfold Ctx.F
  rw [hr]
  rfl
theorem T.scope {c : Code} (h : T P C n (Exit.noGoto Q) c σ Ω) (hr : C.r = none := by rfl) : T P C n Q (.scope c) σ Ω := fun a w hs ha => by
  have h1 := h a w hs ha
  rw [Ctx.wide hr] at h1 ⊢
  exact wpIn_wide.2 (wp_scope_straight (wpIn_wide.1 h1))
theorem T.lbl {l : Nat} (h : G C n (Q .normal) σ Ω) : T P C n Q (.label l) σ Ω := fun a w hs ha => wpIn_label (h a w hs ha)

/-- A new block of whatever kind. -/
theorem St.allocRaw {w : World} (h : St C Ω w) (x : Obj) : St C (.raw w.heap.size x :: Ω) (w.alloc x) ∧ Step (owns Ω ++ C.X) (owns (.raw w.heap.size x :: Ω) ++ C.X) w (w.alloc x) := by
  refine h.go [] rfl rfl rfl (by simp) (fun r hr _ => heapOld w _ r hr) (by simp) ?_ ?_ ?_
  · rw [owns_cons]
    exact List.nodup_append.2 ⟨by simp [Ob.own], h.nodup, fun a ha b hb => by
      have := h.lt b hb
      simp [Ob.own] at ha
      omega⟩
  · intro b hb
    rw [owns_cons] at hb
    rcases List.mem_append.1 hb with h1 | h1
    · right; simp [Ob.own] at h1; subst h1; simp
    · exact .inl h1
  · intro s o ho
    rcases List.mem_cons.1 ho with rfl | ho
    · exact heap_alloc_new w _
    · exact Rob.step s (fun b hb => heapOld w _ b (h.lt b (List.mem_flatMap.2 ⟨o, ho, hb⟩))) (h.obs o ho)

/-- In one own block of whatever kind something has changed. -/
theorem St.setRaw {A B : List Ob} {b : Nat} {x x' : Obj} {w w' : World} (h : St C (A ++ .raw b x :: B) w)
    (hos : w'.os = w.os) (htape : w'.tape = w.tape) (hout : w'.output = w.output) (hsize : w'.heap.size = w.heap.size) (hsame : ∀ r, r ≠ b → w'.heap[r]? = w.heap[r]?)
    (hb : w'.heap[b]? = some x') :
    St C (A ++ .raw b x' :: B) w' ∧ Step (owns (A ++ .raw b x :: B) ++ C.X) (owns (A ++ .raw b x' :: B) ++ C.X) w w' := by
  have ho : owns (A ++ .raw b x' :: B) = owns (A ++ .raw b x :: B) := by simp [owns, Ob.own]
  have hmem : b ∈ owns (A ++ .raw b x :: B) := by simp [owns, Ob.own]
  refine h.go [b] hos htape hout (by omega) (fun r _ hr => hsame r (by simpa using hr)) (by simpa using hmem) (by rw [ho]; exact h.nodup) (fun r hr => .inl (by rw [ho] at hr; exact hr)) ?_
  intro s o hO
  rw [ho] at s ⊢
  have hnd := h.nodup
  rw [owns_append, owns_cons] at hnd
  have hother : ∀ o ∈ A ++ B, b ∉ o.own := by
    intro o ho hbo
    rw [List.nodup_append] at hnd
    obtain ⟨_, h2, h3⟩ := hnd
    rw [List.nodup_append] at h2
    rcases List.mem_append.1 ho with h4 | h4
    · exact h3 b (List.mem_flatMap.2 ⟨o, h4, hbo⟩) b (List.mem_append_left _ (by simp [Ob.own])) rfl
    · exact h2.2.2 b (by simp [Ob.own]) b (List.mem_flatMap.2 ⟨o, h4, hbo⟩) rfl
  have hcase : o = .raw b x' ∨ o ∈ A ++ B := by
    rcases List.mem_append.1 hO with h4 | h4
    · exact .inr (List.mem_append_left _ h4)
    · rcases List.mem_cons.1 h4 with h5 | h5
      · exact .inl h5
      · exact .inr (List.mem_append_right _ h5)
  rcases hcase with rfl | hin
  · exact hb
  · have hold : o ∈ A ++ .raw b x :: B := by
      rcases List.mem_append.1 hin with h4 | h4
      · exact List.mem_append_left _ h4
      · exact List.mem_append_right _ (List.mem_cons_of_mem _ h4)
    exact Rob.step s (fun r hr => hsame r (fun e => hother o hin (e ▸ hr))) (h.obs o hold)

/-- range over a string. -/
theorem L.rng {t : TypeId} {x : Operand} {s : ByteArray} (hu : P.underlying t = some .string) (hx : ev σ x = some (aS s)) (hdn : Nat.blt d n = true)
    (h : ∀ b, L P C n ops Q rest ((d, aP b 0) :: σ) (.raw b (.stringIter s 0) :: Ω)) : L P C n ops Q ({ dst := some d, op := .range t x, type := ty, pos, after, guard := none } :: rest) σ Ω := by
  refine L.any rfl rfl hdn fun a w hs ha => ⟨.pointer (some ⟨w.heap.size, 0, none⟩), _, aP w.heap.size 0, _, ?_, hs.allocRaw (.stringIter s 0), rP, h _⟩
  simp [execOp, ha.str hx, run_range_string w t s hu, World.iter]

/-- The next rune. -/
theorem L.nxt {x : Operand} {b : Nat} {s : ByteArray} {p : Nat} {Ω' : List Ob} (i : Nat) (hx : ev σ x = some (aP b 0)) (hi : Ω[i]? = some (.raw b (.stringIter s p))) (hp : p < s.size)
    (hΩ : SetAt Ω i (.raw b (.stringIter s (p + (Utf8.decode s p).2))) Ω') (hdn : Nat.blt d n = true)
    (h : L P C n ops Q rest ((d, .t [.c (.d (.b true)), .c (.d (.i .i64 (p : Int))), .c (.d (.i .i32 ((Utf8.decode s p).1 : Int)))]) :: σ) Ω') :
    L P C n ops Q ({ dst := some d, op := .next x true, type := ty, pos, after, guard := none } :: rest) σ Ω := by
  obtain ⟨A, B, rfl, rfl⟩ := hΩ.split hi
  refine L.any rfl rfl hdn fun a w hs ha => ?_
  have hk : w.heap[b]? = some (.stringIter s p) := hs.obs _ (List.mem_append_right _ (List.mem_cons_self ..))
  refine ⟨.tuple #[.bool true, .int .i64 p, .int .i32 (Utf8.decode s p).1], _, _, _, ?_, hs.setRaw (w' := w.iterAt b s (p + (Utf8.decode s p).2)) rfl rfl rfl (Go.Lib.iterAt_size _ _ _ _) (fun r hr => Go.Lib.iterAt_other w b r s _ hr) (Go.Lib.iterAt_heap w b s p _ hk), ?_, h⟩
  · simp [execOp, ha.ptr hx, Go.Lib.run_next_any_at w b s p ty hk hp]
  · exact ⟨[.bool true, .int .i64 p, .int .i32 (Utf8.decode s p).1], rfl, Rc.b _, Rc.i _ _, Rc.i _ _, trivial⟩

/-- No rune any more. -/
theorem L.nxtE {x : Operand} {b : Nat} {s : ByteArray} {p : Nat} (i : Nat) (hx : ev σ x = some (aP b 0)) (hi : Ω[i]? = some (.raw b (.stringIter s p))) (hp : s.size ≤ p) (hdn : Nat.blt d n = true)
    (h : L P C n ops Q rest ((d, .t [.c (.d (.b false))]) :: σ) Ω) :
    L P C n ops Q ({ dst := some d, op := .next x true, type := ty, pos, after, guard := none } :: rest) σ Ω := by
  refine L.pure rfl rfl hdn (fun a w hs ha => ?_) h
  have hk : w.heap[b]? = some (.stringIter s p) := hs.obs _ (List.mem_of_getElem? hi)
  refine ⟨.tuple #[.bool false], ?_, [.bool false], rfl, Rc.b _, trivial⟩
  simp [execOp, ha.ptr hx, Go.Lib.run_next_end_at w b s p ty hk (by omega)]

/-- Of one kind of whole numbers another. -/
theorem L.cvI {t u : TypeId} {x : Operand} {k k' : IntKind} {m : Int} (z : Int) (ht : (P.underlying t).isSome = true) (hu : P.underlying u = some (.int k')) (hx : ev σ x = some (aI k m)) (hz : k'.wrap m = z) (hdn : Nat.blt d n = true)
    (h : L P C n ops Q rest ((d, aI k' z) :: σ) Ω) : L P C n ops Q ({ dst := some d, op := .convert t u x, type := ty, pos, after, guard := none } :: rest) σ Ω := by
  refine L.pure rfl rfl hdn (fun a w hs ha => ⟨.int k' z, ?_, rI⟩) h
  subst hz
  obtain ⟨tt, htt⟩ := Option.isSome_iff_exists.1 ht
  simp [execOp, ha.int hx, convert, run_underlying htt, run_underlying hu, Conv.intToInt]

/-- A number as a string. -/
theorem L.cvS {t u : TypeId} {x : Operand} {k : IntKind} {m : Int} (ht : P.underlying t = some (.int k)) (hu : P.underlying u = some .string) (hx : ev σ x = some (aI k m)) (hdn : Nat.blt d n = true)
    (h : L P C n ops Q rest ((d, aS (Utf8.encode m)) :: σ) Ω) : L P C n ops Q ({ dst := some d, op := .convert t u x, type := ty, pos, after, guard := none } :: rest) σ Ω := by
  refine L.pure rfl rfl hdn (fun a w hs ha => ⟨.string (Utf8.encode m), ?_, rS⟩) h
  simp [execOp, ha.int hx, convert, run_underlying ht, run_underlying hu, Conv.intToString]

/-- bytealg.IndexByteString. -/
def isIxB (P : Program) (f : FuncId) : Prop := ∃ fn, P.funcs[f]? = some fn ∧ (fn.name == "runtime.NumGoroutine") = false ∧ fn.body.isNone = true ∧ Extern.findNext fn = none ∧ Extern.find fn = some Extern.BytealgIndexByte.indexByte

theorem L.ixB {f : FuncId} {x y : Operand} {ts : Array TypeId} {s : ByteArray} {c : Int} (hf : isIxB P f) (hx : ev σ x = some (aS s)) (hy : ev σ y = some (aI .u8 c)) (hdn : Nat.blt d n = true)
    (h : L P C n ops Q rest ((d, aN (Lib.indexByte s.data.toList c.toNat.toUInt8)) :: σ) Ω) :
    L P C n ops Q ({ dst := some d, op := .call { callee := .value (.func f), args := #[x, y], argTypes := ts }, type := ty, pos, after, guard := none } :: rest) σ Ω := by
  refine L.pure rfl rfl hdn (fun a w hs ha => ⟨.int .i64 (Lib.indexByte s.data.toList c.toNat.toUInt8), ?_, rI⟩) h
  obtain ⟨fn, h1, h2, h3, h4, h5⟩ := hf
  have e0 : a.eval (.func f) = .func (.func f) #[] #[] := rfl
  simp [execOp, resolve, Deferred.ofValue, e0, invoke, run_callFunc_extern h1 h2 h3 h4 h5, ha.str hx, ha.int hy, Lib.run_indexByteString]

/-- An address in an own array. -/
theorem L.ia {t e : TypeId} {x i : Operand} {b o N : Nat} {k : IntKind} {m : Int} (j : Nat) (hu : P.underlying t = some (.array N e)) (hsz : (P.info? e).map (·.size) = some 1) (hx : ev σ x = some (aP b o)) (hi : ev σ i = some (aI k m)) (hm : m = (j : Int)) (hj : j < N) (hdn : Nat.blt d n = true)
    (h : L P C n ops Q rest ((d, aP b (o + j)) :: σ) Ω) : L P C n ops Q ({ dst := some d, op := .indexAddr t x i, type := ty, pos, after, guard := none } :: rest) σ Ω := by
  refine L.pure rfl rfl hdn (fun a w hs ha => ⟨.pointer (some ⟨b, o + j, none⟩), ?_, rP⟩) h
  subst hm
  obtain ⟨ti, hti, hs1⟩ := Option.map_eq_some_iff.1 hsz
  simp [execOp, Instr.indexAt, ha.ptr hx, ha.int hi, asIntOf, run_underlying hu, Instr.sureAddr, hj, sizeOf, typeInfo, hti, hs1, Addr.add_lit]

/-- What a result that lies in an own block reads as. -/
theorem cell_loads {t : Nat} {T T' : TypeId} {b i sz : Nat} {cs : List CV} (ht : σ.lookup t = some (aP b 0)) (h1 : agg P T = true) (hsz : (P.info? T).map (·.size) = some sz) (hi : Ω[i]? = some (.blk b T' cs)) (hl : Nat.beq cs.length sz = true) {a : Act} {w : World} (hs : St C Ω w) (ha : Has n C.ds (owns Ω ++ C.X) w a σ) :
    ∃ us : List Value, a.tmps[t]? = some (.pointer (some ⟨b, 0, none⟩)) ∧ (loadVar T ⟨b, 0, none⟩).run P w = .ok (.agg us.toArray) w ∧ All2 (Rcv (owns Ω ++ C.X) w) us cs := by
  obtain ⟨v, hv, hr'⟩ := ha.get t _ ht
  have hv' : v = .pointer (some ⟨b, 0, none⟩) := hr'
  subst hv'
  obtain ⟨us, hb, hc⟩ := hs.blk hi
  have hl' : cs.length = sz := by simpa using hl
  refine ⟨us, hv, run_loadVar_agg (P := P) (w := w) (b := b) (o := 0) (us := us) h1 hsz (by rw [hc.length, hl']) (fun j u hu => by
    rw [Nat.zero_add, cell_of_row w b j us.toArray T' (0, 0) hb]; simpa using hu), hc⟩

theorem resCT {fn : Func} {t u : Nat} {T T' : TypeId} {b i sz : Nat} {cs : List CV} {y : SV} (hr : fn.results = #[.cell t T, .tmp u]) (ht : σ.lookup t = some (aP b 0)) (h1 : agg P T = true) (hsz : (P.info? T).map (·.size) = some sz) (hi : Ω[i]? = some (.blk b T' cs)) (hl : Nat.beq cs.length sz = true) (hu : σ.lookup u = some (.v y)) :
    ∀ a w, St C Ω w → Has n C.ds (owns Ω ++ C.X) w a σ → ∃ v, (results fn a.tmps).run P w = .ok v w ∧ Rav (owns Ω ++ C.X) w v (.t [.g cs, y]) := by
  intro a w hs ha
  obtain ⟨us, h2, h3, h4⟩ := cell_loads ht h1 hsz hi hl hs ha
  obtain ⟨v', h1', h2'⟩ := ha.get u _ hu
  exact ⟨.tuple #[.agg us.toArray, v'], by simp [results, hr, h2, asAddr, h3, h1'], [.agg us.toArray, v'], rfl, ⟨us, rfl, h4⟩, h2', trivial⟩

theorem resCTT {fn : Func} {t u s : Nat} {T T' : TypeId} {b i sz : Nat} {cs : List CV} {y z : SV} (hr : fn.results = #[.cell t T, .tmp u, .tmp s]) (ht : σ.lookup t = some (aP b 0)) (h1 : agg P T = true) (hsz : (P.info? T).map (·.size) = some sz) (hi : Ω[i]? = some (.blk b T' cs)) (hl : Nat.beq cs.length sz = true) (hu : σ.lookup u = some (.v y)) (hz : σ.lookup s = some (.v z)) :
    ∀ a w, St C Ω w → Has n C.ds (owns Ω ++ C.X) w a σ → ∃ v, (results fn a.tmps).run P w = .ok v w ∧ Rav (owns Ω ++ C.X) w v (.t [.g cs, y, z]) := by
  intro a w hs ha
  obtain ⟨us, h2, h3, h4⟩ := cell_loads ht h1 hsz hi hl hs ha
  obtain ⟨v', h1', h2'⟩ := ha.get u _ hu
  obtain ⟨v'', h1'', h2''⟩ := ha.get s _ hz
  exact ⟨.tuple #[.agg us.toArray, v', v''], by simp [results, hr, h2, asAddr, h3, h1', h1''], [.agg us.toArray, v', v''], rfl, ⟨us, rfl, h4⟩, h2', h2'', trivial⟩

theorem setAt_set {α : Type} : ∀ {l : List α} {i : Nat} {x : α}, i < l.length → SetAt l i x (l.set i x)
  | a :: l, 0, x, _ => .z a x l
  | a :: l, i + 1, x, h => .s a (setAt_set (by simpa using h))
  | [], _, _, h => by simp at h

/-- A store of one cell at a place that is computed. -/
theorem L.stK {t : TypeId} {x y : Operand} {b o : Nat} {T : TypeId} {cs : List CV} {z : CV} {Ω' : List Ob} (i : Nat) (cs' : List CV) (hsz : (P.info? t).map (·.size) = some 1) (hx : ev σ x = some (aP b o)) (hy : ev σ y = some (.v (.c z))) (hi : Ω[i]? = some (.blk b T cs)) (ho : o < cs.length) (hc : cs.set o z = cs') (hΩ : setL Ω i (.blk b T cs') = some Ω')
    (h : L P C n ops Q rest σ Ω') : L P C n ops Q ({ dst := none, op := .store t x y, type := ty, pos, after, guard := none } :: rest) σ Ω :=
  L.st hsz hx hy hi (hc ▸ setAt_set ho) (setAt_of hΩ) h

/-- The cells of a set of bytes. -/
def setOf (q : Nat → Bool) : List CV := (List.range 256).map fun k => .d (.b (q k))
theorem setOf_len (q : Nat → Bool) : (setOf q).length = 256 := by simp [setOf]
theorem setOf_set (q : Nat → Bool) (c : Nat) : (setOf q).set c (.d (.b true)) = setOf fun k => k == c || q k := by
  unfold setOf
  apply List.ext_getElem
  · simp
  · intro i h1 h2
    simp only [List.getElem_set, List.getElem_map, List.getElem_range]
    by_cases h : c = i
    · simp [h]
    · have h' : (i == c) = false := by simpa using fun e => h e.symm
      simp [h, h']
theorem setOf_get (q : Nat → Bool) {c : Nat} (h : c < 256) : (setOf q)[c]? = some (.d (.b (q c))) := by
  simp [setOf, h]
theorem setOf_zero : setOf (fun _ => false) = List.replicate 256 (.d (.b false)) := by
  unfold setOf
  rw [List.map_const', List.length_range]

/-- The results, and then something owned is let go. -/
theorem G.retW {fn : Func} {R : AV → List Ob → Prop} {x : AV} {Ω' : List Ob} (hh : ∀ w, St C Ω w → St C Ω' w ∧ Step (owns Ω ++ C.X) (owns Ω' ++ C.X) w w) (hres : ∀ a w, St C Ω w → Has n C.ds (owns Ω ++ C.X) w a σ → ∃ v, (results fn a.tmps).run P w = .ok v w ∧ Rav (owns Ω ++ C.X) w v x) (hR : R x Ω') (hds : C.ds = [] := by rfl) :
    G C n (Post P fn C R .ret) σ Ω := by
  intro a w hs ha
  obtain ⟨v, h1, h2⟩ := hres a w hs ha
  obtain ⟨h3, h4⟩ := hh w hs
  exact leaves_nil (ha.defers.trans hds) ⟨v, h1, v, x, Ω', rfl, hR, h3, Rav.step h4 h2⟩
theorem G.endW {fn : Func} {R : AV → List Ob → Prop} {x : AV} {Ω' : List Ob} (hh : ∀ w, St C Ω w → St C Ω' w ∧ Step (owns Ω ++ C.X) (owns Ω' ++ C.X) w w) (hres : ∀ a w, St C Ω w → Has n C.ds (owns Ω ++ C.X) w a σ → ∃ v, (results fn a.tmps).run P w = .ok v w ∧ Rav (owns Ω ++ C.X) w v x) (hR : R x Ω') (hds : C.ds = [] := by rfl) :
    G C n (Post P fn C R .normal) σ Ω := by
  intro a w hs ha
  obtain ⟨v, h1, h2⟩ := hres a w hs ha
  obtain ⟨h3, h4⟩ := hh w hs
  exact leaves_nil (ha.defers.trans hds) ⟨v, h1, v, x, Ω', rfl, hR, h3, Rav.step h4 h2⟩

end
end Go.Q
namespace Go.Q
open Go

def FlowP (P : Program) (C : Ctx) (n : Nat) (l : List Oper) (m : Nat) (σb : Env) (Ωc : List Ob) (V : List AV) (i : Nat) (o : Oper) (p : List Ob × List Ob) : Prop :=
  ∀ (σ' : Env) (Ωf : List Ob), Sub σ' σb → (∀ j, ancB l.toArray m i j = true → σ'.lookup (dstAt l j) = V[j]?) →
    L P C n l.toArray (Fin C n (fun x post => V[i]? = some x ∧ post = p.2) (dstAt l i) σ' (Ωc ++ Ωf)) [o] σ' (p.1 ++ (Ωc ++ Ωf))

def FlowPs (P : Program) (C : Ctx) (n : Nat) (l : List Oper) (m : Nat) (σb : Env) (Ωc : List Ob) (V : List AV) : Nat → List Oper → List (List Ob × List Ob) → Prop
  | i, o :: r, p :: ps => FlowP P C n l m σb Ωc V i o p ∧ FlowPs P C n l m σb Ωc V (i + 1) r ps
  | _, [], _ => True
  | _, _ :: _, [] => False

section
variable {P : Program} {C : Ctx} {n : Nat} {Q : Pst} {σ : Env} {Ω : List Ob}

theorem FlowPs.flow {l : List Oper} {m : Nat} {σb : Env} {Ωc : List Ob} {V : List AV} {pp : List (List Ob × List Ob)} : ∀ {r : List Oper} {k : Nat} {ps : List (List Ob × List Ob)}, (∀ i, ps[i]? = pp[k + i]?) → FlowPs P C n l m σb Ωc V k r ps →
    FlowOps P C n l m σb Ωc (fun i => (pp[i]?.map (·.1)).getD []) (fun i x _ post => V[i]? = some x ∧ post = (pp[i]?.map (·.2)).getD []) k r
  | [], _, _, _, _ => trivial
  | _ :: _, _, [], _, h => h.elim
  | o :: r, k, p :: ps, hp, ⟨h1, h2⟩ => by
    have h0 := hp 0
    simp at h0
    refine ⟨fun X posts σ' Ωf hs hA => ?_, FlowPs.flow (fun i => by have := hp (i + 1); rw [show k + 1 + i = k + (i + 1) by omega, ← this]; simp) h2⟩
    have := h1 σ' Ωf hs fun j hj => by obtain ⟨h3, h4, _⟩ := hA j hj; rw [h3, h4]
    show L P C n l.toArray (Fin C n (fun x post => V[k]? = some x ∧ post = (pp[k]?.map (·.2)).getD []) _ σ' _) _ _ ((pp[k]?.map (·.1)).getD [] ++ _)
    rw [← h0]
    exact this

theorem flatMap_get {α β : Type} (f : α → List β) : ∀ (l : List α), (List.range l.length).flatMap (fun i => (l[i]?.map f).getD []) = l.flatMap f
  | [] => rfl
  | a :: l => by
    rw [List.length_cons, List.range_succ_eq_map, List.flatMap_cons, List.flatMap_cons, List.flatMap_map]
    simp only [List.getElem?_cons_zero, Option.map_some, Option.getD_some]
    congr 1
    have := flatMap_get f l
    rw [← this]
    congr 1

theorem T.drawP {id : Nat} {l : List Oper} (m : Nat) (σb : Env) (V : List AV) (pp : List (List Ob × List Ob)) (Ωc : List Ob) (hm : P.follows .mixedOrders = true) (hml : Nat.ble m l.length = true) (hV : Nat.beq V.length m = true) (hpp : Nat.beq pp.length m = true) (hf : frontOk l.toArray m σb = true) (ht : tailOk l.toArray m = true) (hsub : Sub σ σb)
    (hΩ : (pp.flatMap (·.1) ++ Ωc).Perm Ω)
    (hops : FlowPs P C n l m σb Ωc V 0 (l.take m) pp)
    (hrest : L P C n l.toArray Q (l.drop m) (frontV (l.take m) V ++ σb) (pp.flatMap (·.2) ++ Ωc)) :
    T P C n Q (.region id l.toArray true) σ Ω := by
  have hml' : m ≤ l.length := by simpa using hml
  have hV' : V.length = m := by simpa using hV
  have hp' : pp.length = m := by simpa using hpp
  refine T.draw m σb Ωc (fun i => (pp[i]?.map (·.1)).getD []) (fun i x _ post => V[i]? = some x ∧ post = (pp[i]?.map (·.2)).getD []) hm hml hf ht hsub ?_ (FlowPs.flow (pp := pp) (fun i => by rw [Nat.zero_add]) hops) fun X posts hR => ?_
  · have := flatMap_get (fun q : List Ob × List Ob => q.1) pp
    rw [hp'] at this
    rw [this]; exact hΩ
  · have h1 : (List.range m).flatMap posts = pp.flatMap (·.2) := by
      rw [← flatMap_get (fun q : List Ob × List Ob => q.2) pp, hp']
      apply flatMap_congr'
      intro i hi
      exact (hR i (by simpa using hi)).2
    rw [h1, frontV_eq (V := V) (by simp; omega) (fun i hi => by
      have := (hR i (by simp at hi; simp; omega)).1
      rw [Nat.zero_add]; exact this)]
    exact hrest

theorem G.finP {V : List AV} {i d : Nat} {σ' : Env} {Ωr : List Ob} {x : AV} {post : List Ob} {Ω : List Ob} (h : V[i]? = some x) (hΩ : Ω = post ++ Ωr) : G C n (Fin C n (fun x p => V[i]? = some x ∧ p = post) d σ' Ωr .normal) ((d, x) :: σ') Ω :=
  G.fin post ⟨h, rfl⟩ hΩ

end
end Go.Q
namespace Go.Q
open Go
section
variable {P : Program} {C : Ctx} {n : Nat} {ops : Array Oper} {Q : Pst} {rest : List Oper} {σ : Env} {Ω : List Ob} {d : Nat} {ty : TypeId} {pos : String} {after : Array Edge}

/-- A slot that is written twice holds what was written last. -/
theorem Has.two {n : Nat} {ds : List Deferred} {Y : List Nat} {w : World} {a : Act} {σ : Env} {d : Nat} {x y : AV} (ha : Has n ds Y w a ((d, x) :: (d, y) :: σ)) : Has n ds Y w a ((d, x) :: σ) := by
  refine ⟨ha.size, ha.defers, fun d' z hz => ha.get d' z ?_⟩
  by_cases he : d' = d
  · subst he
    simp [List.lookup] at hz ⊢
    exact hz
  · have hb : (d' == d) = false := by simpa using he
    simp only [List.lookup, hb] at hz ⊢
    exact hz

/-- []T{}: nothing is kept as own. -/
theorem L.bs0 {t e : TypeId} {sz by_ : Nat} {zv : Value} (hu : P.underlying t = some (.slice e)) (hinfo : (P.info? e).map (fun i => (i.zero, i.size, i.bytes)) = some (some zv, sz, by_)) (h0 : Nat.blt 0 sz = true) (hdn : Nat.blt d n = true)
    (h : ∀ b, L P C n ops Q rest ((d, aR (.slice (some ⟨b, 0, none⟩) 0 0)) :: σ) Ω) : L P C n ops Q ({ dst := some d, op := .buildSlice t 0 #[], type := ty, pos, after, guard := none } :: rest) σ Ω :=
  L.bsR (ps := []) (xs := []) (es := []) (m := 0) rfl hu hinfo h0 (by simp) rfl rfl hdn fun b => L.conv (drop_at (i := 0) rfl rfl) (h b)

/-- append onto it. -/
theorem L.ap0 {t e : TypeId} {x y : Operand} {g sz bytes : Nat} {zv : Value} {ds : List (List D)} (ht : P.underlying t = some (.slice e)) (hinfo : (P.info? e).map (fun i => (i.zero, i.size, i.bytes)) = some (some zv, sz, bytes)) (hzs : Nat.beq zv.cells.size sz = true)
    (hx : ev σ x = some (aR (.slice (some ⟨g, 0, none⟩) 0 0))) (hy : ev σ y = some (aL sz ds)) (hb : ds.length * bytes ≤ 140737488355328) (hm : ds.length ≤ 9223372036854775807) (hdn : Nat.blt d n = true)
    (h1 : ∀ v', ds ≠ [] → L P C n ops Q rest ((d, aR v') :: σ) (.row v' e sz ds :: Ω)) (h2 : ds = [] → L P C n ops Q rest ((d, aR (.slice (some ⟨g, 0, none⟩) 0 0)) :: σ) Ω) :
    L P C n ops Q ({ dst := some d, op := .call { callee := .builtin .append, args := #[x, y], argTypes := #[t, t] }, type := ty, pos, after, guard := none } :: rest) σ Ω := by
  obtain ⟨ti, hti, hz0, hz1, hz2⟩ := info_parts hinfo
  subst hz1
  subst hz2
  refine L.any rfl rfl hdn fun a w hs ha => ?_
  have hvx := ha.raw hx
  obtain ⟨vy, hvy, hry⟩ := ha.val hy
  have hry' : Rc (owns Ω ++ C.X) w vy (.l ti.size ds) := hry
  by_cases hne : ds = []
  · subst hne
    obtain ⟨A', c', rfl, _, _, _⟩ := Rc.slice_inv hry'
    have hrun := run_append_idle (P := P) (ty := ty) ht hti w (some ⟨g, 0, none⟩) A' 0 0 c' (Nat.le_refl _)
    refine ⟨_, w, aR _, Ω, ?_, ⟨hs, Step.refl _ _⟩, ⟨rfl, rfl⟩, h2 rfl⟩
    simp [execOp, resolve, invoke, builtin, hvx, hvy, hrun]
  · obtain ⟨b, o, c, news, rfl, hnl, hnc, hn2, hnl2⟩ := Rc.slice_cells hry' hne
    have hpos : 0 < ds.length := List.length_pos_iff.2 hne
    have hr := run_append_grow (P := P) w t ty e ti zv ht hti hz0 ⟨g, 0, none⟩ 0 0 [] (by simp) (by simp) ⟨b, o, none⟩ ds.length c news hnl hnc (by omega) (by omega) (growslice_fits (by omega) (by rw [Nat.zero_add]; exact hb))
    have hge := grownCap_ge w (0 + ds.length) 0 e
    have hzs' : zv.cells.size = ti.size := by simpa using hzs
    have hnew := (hs.drew.1).newRow (w' := w.drew.alloc (.cells ((([] : List Value).toArray ++ news.toArray) ++ Builtin.zeroCells zv.cells (grownCap w (0 + ds.length) 0 e - (0 + ds.length))) e)) (World.grownBy_alloc w.drew _ none) (.slice (some ⟨w.heap.size, 0, none⟩) (0 + ds.length) (grownCap w (0 + ds.length) 0 e)) e ti.size news ds ⟨hnl, .inr ⟨w.heap.size, _, _, by rw [Nat.zero_add], Nat.le_refl _, heap_alloc_new w.drew _, by omega, grownCap_le_maxLen w (0 + ds.length) 0 e (by simp only [maxLen]; omega), ?_, ?_⟩⟩ (hn2.mono fun _ _ => Rc.step hs.drew.2) hnl2
    · refine ⟨_, _, aR (.slice (some ⟨w.heap.size, 0, none⟩) (0 + ds.length) (grownCap w (0 + ds.length) 0 e)), _, ?_, ⟨hnew.1, hs.drew.2.trans hnew.2⟩, ⟨rfl, rfl⟩, h1 _ hne⟩
      simp only [execOp, resolve, invoke, builtin]
      simp [hvx, hvy, hr]
    · simp only [Array.size_append, List.size_toArray, size_zeroCells, hzs', hnl, List.length_nil, Nat.zero_add, ← Nat.add_mul]
      congr 1
      rw [Nat.zero_add] at hge
      omega
    · simp only [Array.toList_append, List.nil_append]
      rw [← hnl]
      exact List.take_left

/-- append onto it; what comes of it is data. -/
theorem L.apD {t e : TypeId} {x y : Operand} {g sz bytes : Nat} {zv : Value} {ds : List (List D)} (ht : P.underlying t = some (.slice e)) (hinfo : (P.info? e).map (fun i => (i.zero, i.size, i.bytes)) = some (some zv, sz, bytes)) (hzs : Nat.beq zv.cells.size sz = true)
    (hx : ev σ x = some (aR (.slice (some ⟨g, 0, none⟩) 0 0))) (hy : ev σ y = some (aL sz ds)) (hb : ds.length * bytes ≤ 140737488355328) (hm : ds.length ≤ 9223372036854775807) (hdn : Nat.blt d n = true)
    (h : L P C n ops Q rest ((d, aL sz ds) :: σ) Ω) :
    L P C n ops Q ({ dst := some d, op := .call { callee := .builtin .append, args := #[x, y], argTypes := #[t, t] }, type := ty, pos, after, guard := none } :: rest) σ Ω := by
  refine L.ap0 ht hinfo hzs hx hy hb hm hdn (fun v' _ => ?_) fun hds => ?_
  · refine L.pub d 0 (by simp [List.lookup]) rfl rfl ?_
    exact fun a w hs ha => h a w hs ha.two
  · subst hds
    exact fun a w hs ha => h a w hs (ha.weak (d := d) (x := aR (.slice (some ⟨g, 0, none⟩) 0 0)) (by simp [List.lookup]) (fun v hv => by rw [hv.1]; exact Rc.nil _ _ _)).two

/-- What append onto an empty one has made: a row of its own, or still the empty one. -/
def Em (v : Value) (e : TypeId) (sz : Nat) (es : List (List D)) (post : List Ob) : Prop := post = [.row v e sz es] ∨ (es = [] ∧ post = [] ∧ ∃ g, v = .slice (some ⟨g, 0, none⟩) 0 0)

theorem L.ap1 {t e : TypeId} {x y : Operand} {v : Value} {sz bytes : Nat} {zv : Value} {es ds : List (List D)} {post Ω2 : List Ob} (ht : P.underlying t = some (.slice e)) (hinfo : (P.info? e).map (fun i => (i.zero, i.size, i.bytes)) = some (some zv, sz, bytes)) (hzs : Nat.beq zv.cells.size sz = true) (hsz : Nat.blt 0 sz = true)
    (hx : ev σ x = some (aR v)) (hy : ev σ y = some (aL sz ds)) (hE : Em v e sz es post) (hne : ds ≠ []) (hb : (es.length + ds.length) * bytes ≤ 140737488355328) (hm : es.length + ds.length ≤ 9223372036854775807) (hdn : Nat.blt d n = true)
    (h : ∀ v', L P C n ops Q rest ((d, aR v') :: σ) (.row v' e sz (es ++ ds) :: Ω2)) :
    L P C n ops Q ({ dst := some d, op := .call { callee := .builtin .append, args := #[x, y], argTypes := #[t, t] }, type := ty, pos, after, guard := none } :: rest) σ (post ++ Ω2) := by
  rcases hE with rfl | ⟨rfl, rfl, g, rfl⟩
  · exact L.app (F := fun v' => .row v' e sz (es ++ ds) :: Ω2) 0 ht hinfo hzs hsz hx hy rfl hb hm hdn (fun _ => rfl) h
  · refine L.ap0 ht hinfo hzs hx hy (by simpa using hb) (by simpa using hm) hdn (fun v' _ => ?_) fun hds => absurd hds hne
    have := h v'
    rwa [List.nil_append] at this

theorem L.apE {t e : TypeId} {x y : Operand} {g sz bytes : Nat} {zv : Value} {ds : List (List D)} (ht : P.underlying t = some (.slice e)) (hinfo : (P.info? e).map (fun i => (i.zero, i.size, i.bytes)) = some (some zv, sz, bytes)) (hzs : Nat.beq zv.cells.size sz = true)
    (hx : ev σ x = some (aR (.slice (some ⟨g, 0, none⟩) 0 0))) (hy : ev σ y = some (aL sz ds)) (hb : ds.length * bytes ≤ 140737488355328) (hm : ds.length ≤ 9223372036854775807) (hdn : Nat.blt d n = true)
    (h : ∀ v' post, Em v' e sz ds post → L P C n ops Q rest ((d, aR v') :: σ) (post ++ Ω)) :
    L P C n ops Q ({ dst := some d, op := .call { callee := .builtin .append, args := #[x, y], argTypes := #[t, t] }, type := ty, pos, after, guard := none } :: rest) σ Ω :=
  L.ap0 ht hinfo hzs hx hy hb hm hdn (fun v' _ => h v' [_] (.inl rfl)) fun hds => h _ [] (.inr ⟨hds, rfl, _, rfl⟩)

end
end Go.Q