/- A row of bytes that strings are appended to; pointers to own blocks compared, converted; a row given up as a string. -/
import Derived.Test.YtimimkdgofiloaaGreatDoorQr
import Derived.Lib.AppendStr
import Derived.Lib.UnsafeStr
import Derived.Lib.Builder
namespace Go.Q
open Go

/-- A string's bytes as elements of a row. -/
def bys (s : ByteArray) : List (List D) := s.data.toList.map fun b => [D.i .u8 (b.toNat : Int)]
@[simp] theorem bys_len (s : ByteArray) : (bys s).length = s.size := by simp [bys]
theorem bys_append (r s : ByteArray) : bys (r ++ s) = bys r ++ bys s := by simp [bys]
theorem bys_one {s : ByteArray} : ∀ e ∈ bys s, e.length = 1 := by
  intro e he
  obtain ⟨b, _, rfl⟩ := List.mem_map.1 he
  rfl
theorem bys_rel {X : List Nat} {w : World} : ∀ l : List UInt8, All2 (Rc X w) (Lib.byteCells l) ((l.map fun b => [D.i .u8 (b.toNat : Int)]).flatten)
  | [] => trivial
  | _ :: l => ⟨Rc.i _ _, bys_rel l⟩
theorem bys_cells {X : List Nat} {w : World} : ∀ {l : List UInt8} {us : List Value}, All2 (Rc X w) us ((l.map fun b => [D.i .u8 (b.toNat : Int)]).flatten) → us = Lib.byteCells l
  | [], [], _ => rfl
  | b :: l, u :: us, ⟨h1, h2⟩ => by
    rw [Rc.int_inv h1, bys_cells h2]; rfl
  | [], _ :: _, h => h.elim
  | _ :: _, [], h => h.elim

section
variable {P : Program} {C : Ctx} {n : Nat} {ops : Array Oper} {Q : Pst} {rest : List Oper} {σ : Env} {Ω : List Ob} {d : Nat} {ty : TypeId} {pos : String} {after : Array Edge}

/-- append(row of bytes, string...). -/
theorem L.apS {t u e : TypeId} {x y : Operand} {v : Value} {r s : ByteArray} {F : Value → List Ob} (i : Nat) (ht : P.underlying t = some (.slice e)) (hu : P.underlying u = some .string) (hinfo : (P.info? e).map (fun i => (i.zero, i.size, i.bytes)) = some (some (.int .u8 0), 1, 1))
    (hx : ev σ x = some (aR v)) (hy : ev σ y = some (aS s)) (hi : Ω[i]? = some (.row v e 1 (bys r))) (hb : r.size + s.size ≤ 140737488355328) (hdn : Nat.blt d n = true) (hF : ∀ v', setL Ω i (.row v' e 1 (bys (r ++ s))) = some (F v'))
    (h : ∀ v', L P C n ops Q rest ((d, aR v') :: σ) (F v')) : L P C n ops Q ({ dst := some d, op := .call { callee := .builtin .append, args := #[x, y], argTypes := #[t, u] }, type := ty, pos, after, guard := none } :: rest) σ Ω := by
  obtain ⟨ti, hti, hz, hsize, hby⟩ := info_parts hinfo
  refine L.any rfl rfl hdn fun a w hs ha => ?_
  obtain ⟨us, hown, hu2, _⟩ := hs.obs _ (List.mem_of_getElem? hi)
  have hus : us = Lib.strCells r := bys_cells hu2
  subst hus
  have e1 := ha.raw hx
  have e2 := ha.str hy
  have hxl : (Lib.strCells r).length = r.size := Lib.strCells_length r
  have hsl : (Lib.strCells s).length = s.size := Lib.strCells_length s
  have hlen : (Lib.strCells r ++ Lib.strCells s).length = (r.size + s.size) * 1 := by rw [List.length_append, hxl, hsl, Nat.mul_one]
  have hap : Lib.strCells (r ++ s) = Lib.strCells r ++ Lib.strCells s := by simp [Lib.strCells]
  rw [bys_len] at hown
  have fin : ∀ v' w', (Builtin.append_ #[t, u] ty #[v, .string s]).run P w = .ok v' w' → w.grownBy w' v.ownBlock → (v'.ownBlock = v.ownBlock ∨ ∀ g, v'.ownBlock = some g → w.heap.size ≤ g) → w'.ownsRow 0 e 1 v' (r.size + s.size) (Lib.strCells r ++ Lib.strCells s) → v'.oneCell' = true →
      ∃ v w' z Ω', (execOp a.eval { dst := some d, op := .call { callee := .builtin .append, args := #[x, y], argTypes := #[t, u] }, type := ty, pos, after, guard := none }).run P w = .ok (.value v) w' ∧ (St C Ω' w' ∧ Step (owns Ω ++ C.X) (owns Ω' ++ C.X) w w') ∧ Rav (owns Ω' ++ C.X) w' v z ∧ L P C n ops Q rest ((d, z) :: σ) Ω' := by
    intro v' w' hr hg hv ho hone
    obtain ⟨A, B, hA, hF'⟩ := setL_split (hF v') hi
    have hs' := hs
    rw [hA] at hs'
    have := hs'.setRow (v' := v') (cs' := bys (r ++ s)) (Lib.strCells r ++ Lib.strCells s) hg hv (by rw [bys_len, ByteArray.size_append]; exact ho) (by rw [← hap]; exact bys_rel _) bys_one
    refine ⟨v', w', aR v', F v', ?_, ?_, rR hone, h v'⟩
    · simp [execOp, resolve, invoke, builtin, e1, e2, hr]
    · rw [hF', hA]; exact this
  have grown : ∀ (old : Nat), old < r.size + s.size → ∀ (row : Option Nat),
      (w.drew.alloc (.cells ((Lib.strCells r).toArray ++ (Lib.strCells s).toArray ++ Builtin.zeroCells (Value.int .u8 0).cells (grownCap w (r.size + s.size) old e - (r.size + s.size))) e)).ownsRow 0 e 1
        (.slice (some ⟨w.heap.size, 0, none⟩) (r.size + s.size) (grownCap w (r.size + s.size) old e)) (r.size + s.size) (Lib.strCells r ++ Lib.strCells s) ∧
      w.grownBy (w.drew.alloc (.cells ((Lib.strCells r).toArray ++ (Lib.strCells s).toArray ++ Builtin.zeroCells (Value.int .u8 0).cells (grownCap w (r.size + s.size) old e - (r.size + s.size))) e)) row := by
    intro old ho row
    have hge := grownCap_ge w (r.size + s.size) old e
    have hcm : grownCap w (r.size + s.size) old e ≤ maxLen := grownCap_le_maxLen w (r.size + s.size) old e (by simp only [maxLen]; omega)
    refine ⟨⟨hlen, .inr ⟨w.heap.size, _, _, rfl, Nat.zero_le _, heap_alloc_new w.drew _, hge, hcm, ?_, ?_⟩⟩, ⟨rfl, rfl, rfl, by simp, fun k hk _ => Lib.alloc_old w.drew _ k hk⟩⟩
    · have hz1 : (Value.int IntKind.u8 0).cells.size = 1 := rfl
      simp only [Array.size_append, List.size_toArray, size_zeroCells, hz1, hxl, hsl]
      omega
    · simp only [Array.toList_append, List.append_assoc]
      rw [← List.append_assoc, ← hlen]
      exact List.take_left
  rcases hown.2 with ⟨rfl, hr0⟩ | ⟨g, cap, cur, rfl, hbg, hg, hnc, hcm, hcs, htake⟩
  · have hx : Lib.strCells r = [] := List.eq_nil_of_length_eq_zero (by rw [hxl]; exact hr0)
    by_cases hm : s.size = 0
    · have hn : Lib.strCells s = [] := List.eq_nil_of_length_eq_zero (by rw [hsl]; exact hm)
      refine fin (.slice none 0 0) w ?_ (World.grownBy.refl w _) (.inl rfl) ?_ rfl
      · have hf := Lib.run_firstCells_string (P := P) w 1 s
        rw [hm] at hf
        simp [Builtin.append_, run_underlying ht, run_underlying hu, sizeOf, typeInfo, hti, hsize, Builtin.lenOf, hm, hf]
      · rw [hx, hn, hm, hr0]; exact World.ownsRow_nil w 0 e 1
    · have hr := run_append_nil_string (P := P) w t u ty e ti (.int .u8 0) ht hu hti hz s (by omega) (by omega) (by rw [hby]; omega)
      have hgr := grown 0 (by omega) (Value.ownBlock (.slice none 0 0))
      have hr0' : r.size = 0 := hr0
      simp only [hx, hr0', Nat.zero_add, List.nil_append, Array.empty_append] at hgr
      have e3 : (s.data.map fun b => Value.int .u8 b.toNat) = (Lib.strCells s).toArray := by
        apply Array.ext'
        simp [Lib.strCells]
      rw [e3] at hr
      refine fin _ _ hr hgr.2 (.inr fun g hgv => ?_) (by rw [hx, hr0', Nat.zero_add]; exact hgr.1) rfl
      simp [Value.ownBlock] at hgv; omega
  · by_cases hroom : r.size + s.size ≤ cap
    · have hcs' : cur.size = cap := by simpa using hcs
      have hr := Lib.run_append_room_string (P := P) w t u ty e ti ht hu hti hsize g r.size cap cur hg s hroom (by omega)
      refine fin _ _ hr ⟨rfl, rfl, rfl, by simp, fun k _ hk => setRow_other w g k _ (fun e => hk (by simp [Value.ownBlock, e]))⟩ (.inl rfl) ⟨hlen, .inr ⟨g, cap, _, rfl, hbg, setRow_heap w g cur _ e _ hg, hroom, hcm, ?_, ?_⟩⟩ rfl
      · simp only [List.size_toArray, List.length_append, List.length_take, List.length_drop, Array.length_toList, hsl]
        omega
      · have ht' : cur.toList.take r.size = Lib.strCells r := by simpa using htake
        rw [ht', ← hlen]
        exact List.take_left
    · have holds : ∀ j u, (Lib.strCells r)[j]? = some u → w.cell? ((⟨g, 0, none⟩ : Addr).add j) = some u := hown.cells (g := g) rfl
      have hr := Lib.run_append_grow_string (P := P) w t u ty e ti (.int .u8 0) ht hu hti hz ⟨g, 0, none⟩ r.size cap (Lib.strCells r) (by rw [hsize]; simpa using hxl) holds s (by omega) (by omega) (by rw [hby]; exact growslice_fits (by omega) (by omega))
      have hgr := grown cap (by omega) (Value.ownBlock (.slice (some ⟨g, 0, none⟩) r.size cap))
      refine fin _ _ hr hgr.2 (.inr fun g' hgv => ?_) hgr.1 rfl
      simp [Value.ownBlock] at hgv; omega

/-! ### Pointers -/
theorem L.eqPN {t u : TypeId} {x : Operand} (ht : P.underlying t = some (.pointer (P.pointee t))) (hx : ev σ x = some (aR (.pointer none))) (hdn : Nat.blt d n = true)
    (h : L P C n ops Q rest ((d, aB true) :: σ) Ω) : L P C n ops Q ({ dst := some d, op := .binOp .eql t x (.const (.pointer none)) u, type := ty, pos, after, guard := none } :: rest) σ Ω :=
  L.pure rfl rfl hdn (fun a w hs ha => ⟨.bool true, by
    have e0 : a.eval (.const (.pointer none)) = .pointer none := rfl
    have := run_eql_pointer_nil (P := P) w t none ht
    simp [execOp, ha.raw hx, e0, eqGuard, this], rB⟩) h
theorem L.eqPP {t u : TypeId} {x : Operand} {b o : Nat} (ht : P.underlying t = some (.pointer (P.pointee t))) (hx : ev σ x = some (aP b o)) (hdn : Nat.blt d n = true)
    (h : L P C n ops Q rest ((d, aB false) :: σ) Ω) : L P C n ops Q ({ dst := some d, op := .binOp .eql t x (.const (.pointer none)) u, type := ty, pos, after, guard := none } :: rest) σ Ω :=
  L.pure rfl rfl hdn (fun a w hs ha => ⟨.bool false, by
    have e0 : a.eval (.const (.pointer none)) = .pointer none := rfl
    have := run_eql_pointer_nil (P := P) w t (some ⟨b, o, none⟩) ht
    simp [execOp, ha.ptr hx, e0, eqGuard, this], rB⟩) h
theorem L.nePS {t te u : TypeId} {x y : Operand} {b o : Nat} (ht : P.underlying t = some (.pointer te)) (hte : (P.info? te).isSome = true) (hx : ev σ x = some (aP b o)) (hy : ev σ y = some (aP b o)) (hdn : Nat.blt d n = true)
    (h : L P C n ops Q rest ((d, aB false) :: σ) Ω) : L P C n ops Q ({ dst := some d, op := .binOp .neq t x y u, type := ty, pos, after, guard := none } :: rest) σ Ω := by
  obtain ⟨j, hj⟩ := Option.isSome_iff_exists.1 hte
  exact L.pure rfl rfl hdn (fun a w hs ha => ⟨.bool false, by
    have := Lib.run_neq_ptr_same (P := P) w ⟨b, o, none⟩ ht hj
    simp [execOp, ha.ptr hx, ha.ptr hy, eqGuard, this], rB⟩) h

theorem L.toU {t u e T : TypeId} {x : Operand} {b : Nat} {cs : List CV} (i : Nat) (ht : P.underlying t = some (.pointer e)) (hu : P.underlying u = some .unsafePointer) (hsz : ((P.info? e).map fun j => Nat.blt 0 j.size) = some true) (hx : ev σ x = some (aP b 0)) (hi : Ω[i]? = some (.blk b T cs)) (hc : Nat.blt 0 cs.length = true) (hdn : Nat.blt d n = true)
    (h : L P C n ops Q rest ((d, aP b 0) :: σ) Ω) : L P C n ops Q ({ dst := some d, op := .convert t u x, type := ty, pos, after, guard := none } :: rest) σ Ω := by
  obtain ⟨j, hj, hj0⟩ := Option.map_eq_some_iff.1 hsz
  refine L.pure rfl rfl hdn (fun a w hs ha => ⟨.pointer (some ⟨b, 0, none⟩), ?_, rP⟩) h
  obtain ⟨us, hb, hr⟩ := hs.blk hi
  have hlt : 0 < cs.length := bltLt hc
  have := Lib.run_to_unsafe (P := P) w (j := j) (e := T) (cells := us.length) ⟨b, 0, none⟩ ht hu hj (by have := bltLt hj0; omega) (by simp [World.shape?, hb]) (by rw [hr.length]; exact hlt)
  simp [execOp, ha.ptr hx, this]

theorem L.frU {t u e T : TypeId} {x : Operand} {b k : Nat} {cs : List CV} (i : Nat) (ht : P.underlying t = some .unsafePointer) (hu : P.underlying u = some (.pointer e)) (hi2 : (P.info? e).isSome = true) (hx : ev σ x = some (aP b 0)) (hi : Ω[i]? = some (.blk b T cs)) (hk : Nat.beq cs.length k = true) (hlies : liesAt P P.depth T (k / P.cellsOf T) 0 e 1 = true) (hdn : Nat.blt d n = true)
    (h : L P C n ops Q rest ((d, aP b 0) :: σ) Ω) : L P C n ops Q ({ dst := some d, op := .convert t u x, type := ty, pos, after, guard := none } :: rest) σ Ω := by
  obtain ⟨j, hj⟩ := Option.isSome_iff_exists.1 hi2
  refine L.pure rfl rfl hdn (fun a w hs ha => ⟨.pointer (some ⟨b, 0, none⟩), ?_, rP⟩) h
  obtain ⟨us, hb, hr⟩ := hs.blk hi
  have hk' : cs.length = k := by simpa using hk
  have := Lib.run_from_unsafe (P := P) w (j := j) (e := T) (cells := us.length) ⟨b, 0, none⟩ ht hu hj (by simp [World.shape?, hb]) (by rw [hr.length, hk']; exact hlies)
  simp [execOp, ha.ptr hx, this]

/-- abi.NoEscape. -/
def isNoEsc (P : Program) (f : FuncId) : Prop := ∃ fn, P.funcs[f]? = some fn ∧ (fn.name == "runtime.NumGoroutine") = false ∧ fn.body.isNone = true ∧ Extern.findNext fn = none ∧ Extern.find fn = some Extern.AbiNoEscape.same
theorem L.nesc {f : FuncId} {x : Operand} {ts : Array TypeId} {b o : Nat} (hf : isNoEsc P f) (hx : ev σ x = some (aP b o)) (hdn : Nat.blt d n = true) (h : L P C n ops Q rest ((d, aP b o) :: σ) Ω) :
    L P C n ops Q ({ dst := some d, op := .call { callee := .value (.func f), args := #[x], argTypes := ts }, type := ty, pos, after, guard := none } :: rest) σ Ω := by
  refine L.pure rfl rfl hdn (fun a w hs ha => ⟨.pointer (some ⟨b, o, none⟩), ?_, rP⟩) h
  obtain ⟨fn, h1, h2, h3, h4, h5⟩ := hf
  have e0 : a.eval (.func f) = .func (.func f) #[] #[] := rfl
  simp [execOp, resolve, Deferred.ofValue, e0, invoke, run_callFunc_extern h1 h2 h3 h4 h5, ha.ptr hx, Lib.run_noEscape]

/-! ### A row of bytes as a string -/
theorem L.usd {t : TypeId} {e : TypeId} {x : Operand} {v : Value} {T : TypeId} {r : ByteArray} (i : Nat) (hty : P.underlying ty = some (.pointer e)) (hx : ev σ x = some (aR v)) (hi : Ω[i]? = some (.row v T 1 (bys r))) (hdn : Nat.blt d n = true)
    (h : ∀ p, (∀ g c, v = slV g 0 r.size c → 0 < r.size → p = some ⟨g, 0, none⟩) → L P C n ops Q rest ((d, aR (.pointer p)) :: σ) Ω) :
    L P C n ops Q ({ dst := some d, op := .call { callee := .builtin .unsafeSliceData, args := #[x], argTypes := #[t] }, type := ty, pos, after, guard := none } :: rest) σ Ω := by
  refine L.any rfl rfl hdn fun a w hs ha => ?_
  obtain ⟨us, hown, _, _⟩ := hs.obs _ (List.mem_of_getElem? hi)
  rw [bys_len] at hown
  have e1 := ha.raw hx
  rcases hown.2 with ⟨rfl, hr0⟩ | ⟨g, cap, cur, rfl, hbg, hg, hnc, hcm, hcs, htake⟩
  · refine ⟨.pointer none, w, _, Ω, ?_, ⟨hs, Step.refl _ _⟩, rR rfl, h none fun g c hv _ => by simp at hv⟩
    simp [execOp, resolve, invoke, builtin, e1, Lib.run_unsafeSliceData_nil]
  · by_cases hc : cap = 0
    · subst hc
      have hr := Lib.run_unsafeSliceData_zero (P := P) w #[t] ty e hty ⟨g, 0, none⟩ r.size (T, cur.size) (by simp [World.shape?, hg])
      refine ⟨.pointer (some ⟨w.heap.size, 0, none⟩), w.alloc (.view ⟨g, 0, none⟩ e), _, Ω, ?_, hs.more (World.grownBy_alloc w _ none), rR rfl, h _ fun g c hv h0 => by omega⟩
      simp [execOp, resolve, invoke, builtin, e1, hr]
    · refine ⟨.pointer (some ⟨g, 0, none⟩), w, _, Ω, ?_, ⟨hs, Step.refl _ _⟩, rR rfl, h _ fun g' c hv _ => ?_⟩
      · simp [execOp, resolve, invoke, builtin, e1, Lib.run_unsafeSliceData_row _ _ _ _ _ _ hc]
      · simp at hv; rw [hv.1]

theorem St.freeze {A B : List Ob} {g m c : Nat} {T : TypeId} {sz : Nat} {es : List (List D)} {w : World} (h : St C (A ++ .row (slV g 0 m c) T sz es :: B) w) (k : Nat) :
    St C (A ++ B) (w.freeze ⟨g, 0, none⟩ k) ∧ Step (owns (A ++ .row (slV g 0 m c) T sz es :: B) ++ C.X) (owns (A ++ B) ++ C.X) w (w.freeze ⟨g, 0, none⟩ k) := by
  have hown : (Ob.row (slV g 0 m c) T sz es).own = [g] := by simp [Ob.own, Value.ownBlock]
  have hsub : ∀ b, b ∈ owns (A ++ B) → b ∈ owns (A ++ .row (slV g 0 m c) T sz es :: B) := by
    intro b hb
    rw [owns_append] at hb
    rw [owns_append, owns_cons]
    rcases List.mem_append.1 hb with h1 | h1
    · exact List.mem_append_left _ h1
    · exact List.mem_append_right _ (List.mem_append_right _ h1)
  have hnd := h.nodup
  rw [owns_append, owns_cons, hown, List.nodup_append, List.nodup_append] at hnd
  obtain ⟨nA, ⟨_, nB, hgB⟩, hA⟩ := hnd
  have hsame : ∀ r, r ≠ g → (w.freeze ⟨g, 0, none⟩ k).heap[r]? = w.heap[r]? := by
    intro r hr
    unfold World.freeze
    split
    · rfl
    · simp only [Array.getElem?_modify]
      rw [if_neg (fun e => hr e.symm)]
  have hrest : (w.freeze ⟨g, 0, none⟩ k).os = w.os ∧ (w.freeze ⟨g, 0, none⟩ k).tape = w.tape ∧ (w.freeze ⟨g, 0, none⟩ k).output = w.output ∧ (w.freeze ⟨g, 0, none⟩ k).heap.size = w.heap.size := by
    unfold World.freeze
    split
    · exact ⟨rfl, rfl, rfl, rfl⟩
    · exact ⟨rfl, rfl, rfl, by simp⟩
  refine h.go [g] hrest.1 hrest.2.1 hrest.2.2.1 (by omega) (fun r _ hr => hsame r (by simpa using hr)) (fun r hr => by
    obtain rfl : r = g := by simpa using hr
    rw [owns_append, owns_cons, hown]; simp) ?_ (fun b hb => .inl (hsub b hb)) ?_
  · rw [owns_append, List.nodup_append]
    exact ⟨nA, nB, fun a ha b hb => hA a ha b (List.mem_append_right _ hb)⟩
  · intro s o' ho'
    refine Rob.step s (fun r hr => hsame r fun e => ?_) (h.obs o' ?_)
    · subst e
      rcases List.mem_append.1 ho' with h1 | h1
      · exact hA r (List.mem_flatMap.2 ⟨o', h1, hr⟩) r (List.mem_append_left _ (by simp)) rfl
      · exact hgB r (by simp) r (List.mem_flatMap.2 ⟨o', h1, hr⟩) rfl
    · rcases List.mem_append.1 ho' with h1 | h1
      · exact List.mem_append_left _ h1
      · exact List.mem_append_right _ (List.mem_cons_of_mem _ h1)

theorem L.ust {pt it e : TypeId} {x y : Operand} {p : Option Addr} {v : Value} {r : ByteArray} {Ω' : List Ob} (i : Nat) (hp : P.underlying pt = some (.pointer e)) (hc : P.cellsOf e = 1) (hx : ev σ x = some (aR (.pointer p))) (hy : ev σ y = some (aN (r.size : Int))) (hi : Ω[i]? = some (.row v e 1 (bys r))) (hd : delL Ω i = some Ω')
    (hpv : ∀ g c, v = slV g 0 r.size c → 0 < r.size → p = some ⟨g, 0, none⟩) (hdn : Nat.blt d n = true)
    (h : L P C n ops Q rest ((d, aS r) :: σ) Ω') :
    L P C n ops Q ({ dst := some d, op := .call { callee := .builtin .unsafeString, args := #[x, y], argTypes := #[pt, it] }, type := ty, pos, after, guard := none } :: rest) σ Ω := by
  obtain ⟨A, B, rfl, rfl⟩ := delL_split hd hi
  refine L.any rfl rfl hdn fun a w hs ha => ?_
  obtain ⟨us, hown, hu2, _⟩ := hs.obs _ (List.mem_of_getElem? hi)
  have hus : us = Lib.byteCells r.data.toList := bys_cells hu2
  subst hus
  rw [bys_len] at hown
  have e1 := ha.raw hx
  have e2 := ha.int hy
  by_cases h0 : r.size = 0
  · have hr : r = ByteArray.empty := by
      apply ByteArray.ext
      exact Array.eq_empty_of_size_eq_zero h0
    have hrun := Lib.run_unsafeString_none (P := P) w pt it ty p
    refine ⟨.string .empty, w, aS r, A ++ B, ?_, hs.drop, by rw [hr]; exact rS, h⟩
    rw [h0] at e2
    simp [execOp, resolve, invoke, builtin, e1, e2] at hrun ⊢
    rw [hrun]
    rfl
  · rcases hown.2 with ⟨rfl, hr0⟩ | ⟨g, cap, cur, rfl, hbg, hg, hnc, hcm, hcs, htake⟩
    · exact absurd hr0 h0
    · have hp' := hpv g cap rfl (by omega)
      subst hp'
      have hl : r.data.toList.length = r.size := by simp
      have hrun := Lib.run_unsafeString_row (P := P) w pt it ty e hp hc g cur.size (by simp [World.shape?, hg]) r.data.toList (fun e => h0 (by rw [← hl, e]; rfl)) (by rw [hl]; omega) (by rw [hl]; simp only [maxLen] at hcm; omega) (fun j x hj => by
        refine hown.cells (g := g) rfl j _ ?_
        simp [Lib.byteCells, hj])
      rw [hl] at hrun
      have hst := hs.freeze r.size
      refine ⟨.string r, _, aS r, A ++ B, ?_, hst, rS, h⟩
      simp [execOp, resolve, invoke, builtin, e1, e2, hrun]


/-! ### Nil slices in a struct -/
def nilC : CV → Nat → CV
  | .r (.slice none 0 0), sz => .d (.l sz [])
  | c, _ => c
theorem nilC_ok {Y : List Nat} {w : World} {v : Value} {c : CV} (sz : Nat) (h : Rcv Y w v c) : Rcv Y w v (nilC c sz) := by
  unfold nilC
  split
  · have h' : v = .slice none 0 0 := h.1
    subst h'
    exact Rc.nil none 0 _
  · exact h
theorem nilC_all {Y : List Nat} {w : World} : ∀ {us : List Value} {cs : List CV} {szs : List Nat}, All2 (Rcv Y w) us cs → cs.length = szs.length → All2 (Rcv Y w) us (List.zipWith nilC cs szs)
  | [], [], _, _, _ => by simp [All2]
  | _ :: _, _ :: _, [], _, h => by simp at h
  | _ :: _, _ :: _, _ :: _, ⟨h1, h2⟩, h => ⟨nilC_ok _ h1, nilC_all h2 (by simpa using h)⟩
  | [], _ :: _, _, h, _ => h.elim
  | _ :: _, [], _, h, _ => h.elim
/-- A struct's nil slices, as data. -/
theorem L.nilG {t : Nat} {cs : List CV} (szs : List Nat) (ht : σ.lookup t = some (.v (.g cs))) (hl : Nat.beq cs.length szs.length = true) (h : L P C n ops Q rest ((t, .v (.g (List.zipWith nilC cs szs))) :: σ) Ω) : L P C n ops Q rest σ Ω :=
  fun a w hs ha => h a w hs (ha.weak ht fun v hv => by
    obtain ⟨us, rfl, hu⟩ := hv
    exact ⟨us, rfl, nilC_all hu (by simpa using hl)⟩)

def svN : SV → Nat → SV
  | .c x, sz => .c (nilC x sz)
  | s, _ => s
theorem svN_all {Y : List Nat} {w : World} : ∀ {us : List Value} {cs : List SV} {szs : List Nat}, All2 (Rsv Y w) us cs → cs.length = szs.length → All2 (Rsv Y w) us (List.zipWith svN cs szs)
  | [], [], _, _, _ => by simp [All2]
  | _ :: _, _ :: _, [], _, h => by simp at h
  | _ :: _, .c _ :: _, _ :: _, ⟨h1, h2⟩, h => ⟨nilC_ok _ h1, svN_all h2 (by simpa using h)⟩
  | _ :: _, .g _ :: _, _ :: _, ⟨h1, h2⟩, h => ⟨h1, svN_all h2 (by simpa using h)⟩
  | [], _ :: _, _, h, _ => h.elim
  | _ :: _, [], _, h, _ => h.elim
/-- A contract that takes data, called with nil. -/
theorem Fc.nils {f : FuncId} {as : List SV} {R : AV → List Ob → Prop} (szs : List Nat) (hl : Nat.beq as.length szs.length = true) (hF : Fc P f (List.zipWith svN as szs) Ω R) : Fc P f as Ω R :=
  fun X w args hs ha => hF X w args hs (svN_all ha (by simpa using hl))

end
end Go.Q
