/- Rows of structs: an element stored whole; a row's form; a literal with nil slices in it. -/
import Derived.Test.YtimimkdgofiloaaGreatDoorQz
namespace Go.Q
open Go

theorem flatten_set {α : Type} {sz : Nat} {x : List α} : ∀ {es : List (List α)} {j : Nat}, (∀ e ∈ es, e.length = sz) → j < es.length → (es.set j x).flatten = es.flatten.take (j * sz) ++ x ++ es.flatten.drop (j * sz + sz)
  | [], j, _, h => by simp at h
  | e :: es, 0, he, _ => by
    have := he e (by simp)
    rw [Nat.zero_mul, Nat.zero_add, List.set_cons_zero, List.flatten_cons, List.flatten_cons, List.take_zero, List.nil_append, ← this, List.drop_left]
  | e :: es, j + 1, he, hj => by
    have h1 := he e (by simp)
    have ih := flatten_set (x := x) (es := es) (j := j) (fun e' h => he e' (by simp [h])) (by simpa using hj)
    rw [List.set_cons_succ, List.flatten_cons, List.flatten_cons, ih, Nat.succ_mul, List.take_append, List.drop_append, h1, List.take_of_length_le (l := e) (by omega), List.drop_eq_nil_of_le (as := e) (by omega), show j * sz + sz - sz = j * sz by omega, show j * sz + sz + sz - sz = j * sz + sz by omega, List.nil_append, List.append_assoc, List.append_assoc, List.append_assoc]

section
variable {P : Program} {C : Ctx} {n : Nat} {ops : Array Oper} {Q : Pst} {rest : List Oper} {σ σ' : Env} {Ω Ω' A B : List Ob} {d : Nat} {ty : TypeId} {pos : String} {after : Array Edge}

theorem All2.ofMap {α β γ : Type} {R : α → γ → Prop} {f : β → γ} : ∀ {l : List α} {m : List β}, All2 R l (m.map f) → All2 (fun a b => R a (f b)) l m
  | [], [], _ => trivial
  | _ :: _, _ :: _, ⟨h1, h2⟩ => ⟨h1, All2.ofMap h2⟩
  | [], _ :: _, h => h.elim
  | _ :: _, [], h => h.elim

/-- An element of an own row, stored whole. -/
theorem L.stRg {t T : TypeId} {x y : Operand} {g i m c sz : Nat} {es : List (List D)} {ds : List D} (j : Nat) (hsz : (P.info? t).map (·.size) = some sz) (hx : ev σ x = some (aP g (j * sz))) (hy : ev σ y = some (.v (.g (ds.map .d)))) (hi : Ω[i]? = some (.row (slV g 0 m c) T sz es)) (hds : ds.length = sz) (hj : j < es.length) (hΩ : setL Ω i (.row (slV g 0 m c) T sz (es.set j ds)) = some Ω')
    (h : L P C n ops Q rest σ Ω') : L P C n ops Q ({ dst := none, op := .store t x y, type := ty, pos, after, guard := none } :: rest) σ Ω := by
  obtain ⟨A, B, rfl, rfl⟩ := setL_split hΩ hi
  obtain ⟨ti, hti, hs1⟩ := Option.map_eq_some_iff.1 hsz
  refine L.act rfl rfl (fun a w hs ha => ?_) h
  obtain ⟨us, hown, hu, hl⟩ := hs.obs _ (List.mem_of_getElem? hi)
  obtain ⟨v, hv, vs, rfl, hr⟩ := ha.val hy
  have hr2 := hr.ofMap
  have hvl : vs.length = sz := by have := hr2.length; omega
  have hone : ∀ u ∈ vs, u.oneCell' = true := by
    intro u hu
    obtain ⟨j, hj⟩ := List.getElem?_of_mem hu
    obtain ⟨c, _, hc⟩ := hr2.getl hj
    exact Rc.one hc
  obtain ⟨hul, hform⟩ := hown
  rcases hform with ⟨h', _⟩ | ⟨g', cap, cur, h', hb, hg, hnc, hcm, hcs, htake⟩
  · simp at h'
  · simp only [Value.slice.injEq, Option.some.injEq, Addr.mk.injEq, and_true] at h'
    obtain ⟨rfl, rfl, rfl⟩ := h'
    have hjs : j * sz + sz ≤ es.length * sz := by rw [← Nat.succ_mul]; exact Nat.mul_le_mul_right _ hj
    have hcc : es.length * sz ≤ c * sz := Nat.mul_le_mul_right _ hnc
    have hst := run_storeCells_at P g (j * sz) T vs 0 cur w hg (by rw [Nat.add_zero, hvl]; omega) hone
    rw [Nat.add_zero, hvl] at hst
    have hrow := setRow_heap w g cur (cur.toList.take (j * sz) ++ vs ++ cur.toList.drop (j * sz + sz)).toArray T (0, 0) hg
    have hset := hs.setRow (v' := slV g 0 es.length c) (cs' := es.set j ds) (w' := w.setRow g (cur.toList.take (j * sz) ++ vs ++ cur.toList.drop (j * sz + sz)).toArray) (us.take (j * sz) ++ vs ++ us.drop (j * sz + sz))
      ⟨rfl, rfl, rfl, by simp, fun k _ hk => setRow_other w g k _ (fun e => hk (by simp [e, Value.ownBlock]))⟩ (.inl rfl)
      ⟨by rw [List.length_set]; simp; omega, .inr ⟨g, c, _, by rw [List.length_set], hb, hrow, by rw [List.length_set]; exact hnc, hcm, by simp; omega, ?_⟩⟩
      (by rw [flatten_set hl hj]; exact ((hu.take _).append hr2).append (hu.drop _))
      (fun e he => by
        rcases List.mem_or_eq_of_mem_set he with h4 | h4
        · exact hl e h4
        · rw [h4]; exact hds)
    · refine ⟨_, ?_, hset⟩
      simp [execOp, Instr.storeAt, ha.ptr hx, hv, Instr.sureAddr, storeVar, Value.cells, sizeOf, typeInfo, hti, hvl, hs1, hst]
    · rw [List.length_set, ← htake]
      have e1 : ((cur.toList.take (es.length * sz)).take (j * sz)) = cur.toList.take (j * sz) := by rw [List.take_take]; congr 1; omega
      rw [e1]
      have hl1 : (cur.toList.take (j * sz)).length = j * sz := by simp; omega
      rw [show (cur.toList.take (j * sz) ++ vs ++ cur.toList.drop (j * sz + sz)).toArray.toList = (cur.toList.take (j * sz) ++ vs) ++ cur.toList.drop (j * sz + sz) from rfl, List.take_append, List.take_of_length_le (l := cur.toList.take (j * sz) ++ vs) (by rw [List.length_append, hl1, hvl]; exact hjs)]
      congr 1
      rw [List.length_append, hl1, hvl, List.drop_take]

/-- An own row's slice. -/
theorem T.rowF {v : Value} {T' : TypeId} {sz : Nat} {es : List (List D)} {c : Code} (i : Nat) (hi : Ω[i]? = some (.row v T' sz es)) (h : ∀ a m, v = .slice a es.length m → T P C n Q c σ Ω) : T P C n Q c σ Ω := fun a w hs ha => by
  obtain ⟨us, hown, _, _⟩ := hs.obs _ (List.mem_of_getElem? hi)
  rcases hown.2 with ⟨h1, h2⟩ | ⟨g, cap, cur, h1, _⟩
  · exact h none 0 (by rw [h1, h2]) a w hs ha
  · exact h _ _ h1 a w hs ha

/-- A literal of structs that hold nil slices, as data. -/
theorem run_buildSliceV {Y : List Nat} {w : World} {t e : TypeId} {ti : TypeInfo} {zv : Value} {vps : List (Nat × Value)} {xs : List (Nat × SV)} {es : List (List D)} (hu : P.underlying t = some (.slice e)) (hi : P.info? e = some ti) (hz : ti.zero = some zv) (h0 : 0 < ti.size) (hsmall : vps.length * ti.size ≤ 16777216)
    (hps : All2 (fun (p : Nat × Value) (q : Nat × SV) => p.1 = q.1 ∧ Rsv Y w p.2 q.2) vps xs) (he : elsC ti.size 0 xs = some es) :
    ∃ us : List Value, (Instr.buildSlice t vps.length vps.toArray).run P w = .ok (.slice (some ⟨w.heap.size, 0, none⟩) vps.length vps.length) (w.alloc (.cells us.toArray e)) ∧ All2 (Rc Y w) us es.flatten ∧ (∀ e ∈ es, e.length = ti.size) ∧ es.length = vps.length ∧ us.length = vps.length * ti.size := by
  let zero : Array Value := if vps.length * ti.size = 0 then #[] else zv.cells
  have hcs : ((Array.range (vps.length * ti.size)).map (zero[· % zero.size]!)).size = vps.length * ti.size := by simp
  obtain ⟨us, vs, h1, h2, h3, h4, h5⟩ := fill_seq h0 hps (k := 0) (cs := (Array.range (vps.length * ti.size)).map (zero[· % zero.size]!)) he (by rw [hcs, Nat.zero_add]; exact Nat.le_refl _)
  have h6 : us.toList = vs := by
    rw [h2, Nat.zero_mul, Nat.zero_add, List.take_zero, List.nil_append, List.drop_eq_nil_of_le (by rw [Array.length_toList, hcs]; exact Nat.le_refl _), List.append_nil]
  have hvl : vs.length = vps.length * ti.size := by rw [h3.length, flatten_len h4, h5]
  refine ⟨vs, ?_, h3, h4, h5, hvl⟩
  have h7 : us = vs.toArray := by rw [← h6]
  unfold Instr.buildSlice
  simp only [Sem.run_bind, run_underlying hu, Result.andThen_ok, sizeOf, typeInfo, run_program, hi, Sem.run_pure]
  have hne : ¬ (vps.length * ti.size > 2 ^ 24) := by
    have : (2 : Nat) ^ 24 = 16777216 := rfl
    omega
  rw [if_neg hne]
  by_cases hz0 : vps.length * ti.size = 0
  · rw [if_pos hz0]
    have hzz : zero = #[] := if_pos hz0
    rw [hzz] at h1
    simp only [Sem.run_bind, Sem.run_pure, Result.andThen_ok, h1, h7, newRow, run_newObj, World.alloc_eq]
  · rw [if_neg hz0]
    have hzz : zero = zv.cells := if_neg hz0
    rw [hzz] at h1
    simp only [Sem.run_bind, Sem.run_pure, Result.andThen_ok, zeroValue, typeInfo, run_program, hi, hz, h1, h7, newRow, run_newObj, World.alloc_eq]
def svG : SV → List Nat → SV
  | .g cs, szs => .g (List.zipWith nilC cs szs)
  | s, _ => s
theorem L.bsN {t e : TypeId} {sz by_ : Nat} {zv : Value} {x : Operand} {cs : List CV} {es : List (List D)} (szs : List Nat) (hu : P.underlying t = some (.slice e)) (hinfo : (P.info? e).map (fun i => (i.zero, i.size, i.bytes)) = some (some zv, sz, by_)) (h0 : Nat.blt 0 sz = true) (hsmall : Nat.ble sz 16777216 = true)
    (hx : ev σ x = some (.v (.g cs))) (hl : Nat.beq cs.length szs.length = true) (he : elsC sz 0 [(0, .g (List.zipWith nilC cs szs))] = some es) (hdn : Nat.blt d n = true)
    (h : L P C n ops Q rest ((d, aL sz es) :: σ) Ω) : L P C n ops Q ({ dst := some d, op := .buildSlice t 1 #[(0, x)], type := ty, pos, after, guard := none } :: rest) σ Ω := by
  obtain ⟨ti, hti, hz0, hz1, hz2⟩ := info_parts hinfo
  subst hz1
  refine L.any rfl rfl hdn fun a w hs ha => ?_
  obtain ⟨v, hv, vs, rfl, hr⟩ := ha.val hx
  have hr2 := nilC_all (szs := szs) hr (by simpa using hl)
  have hsm : ti.size ≤ 16777216 := by simpa using hsmall
  obtain ⟨us, h1, h2, h3, h4, h5⟩ := run_buildSliceV (vps := [(0, .agg vs.toArray)]) hu hti hz0 (by simpa using h0) (by simpa using hsm) (xs := [(0, .g (List.zipWith nilC cs szs))]) ⟨⟨rfl, vs, rfl, hr2⟩, trivial⟩ he
  obtain ⟨h6, h7⟩ := hs.more (w' := w.alloc (.cells us.toArray e)) (World.grownBy_alloc w _ none)
  refine ⟨.slice (some ⟨w.heap.size, 0, none⟩) 1 1, w.alloc (.cells us.toArray e), aL ti.size es, Ω, ?_, ⟨h6, h7⟩, ?_, h⟩
  · simp only [execOp, Sem.run_bind]
    rw [show (#[(0, x)] : Array (Nat × Operand)).map (fun (p : Nat × Operand) => (p.1, a.eval p.2)) = [(0, Value.agg vs.toArray)].toArray by simp [hv]]
    rw [show (1 : Nat) = [(0, Value.agg vs.toArray)].length from rfl, h1]
    rfl
  · refine Rc.mk (heap_alloc_new w _) (us := us) ?_ h4 (Nat.le_refl _) (by simp [maxLen]) (fun hX => ?_) h3 (h2.mono fun _ _ => Rc.step h7)
    · have h8 : us.length = ti.size := by rw [h5]; show 1 * _ = _; omega
      simp; exact List.take_of_length_le (by omega)
    · rcases List.mem_append.1 hX with h8 | h8
      · have := hs.lt _ h8; omega
      · have := hs.xlt _ h8; have := hs.size; omega
/-- Some of a struct's nil slices, as data. -/
def nilO : CV → Nat → CV
  | c, 0 => c
  | c, sz => nilC c sz
theorem nilO_ok {Y : List Nat} {w : World} {v : Value} {c : CV} (sz : Nat) (h : Rcv Y w v c) : Rcv Y w v (nilO c sz) := by
  unfold nilO
  split
  · exact h
  · exact nilC_ok _ h
theorem nilO_all {Y : List Nat} {w : World} : ∀ {us : List Value} {cs : List CV} {szs : List Nat}, All2 (Rcv Y w) us cs → cs.length = szs.length → All2 (Rcv Y w) us (List.zipWith nilO cs szs)
  | [], [], _, _, _ => by simp [All2]
  | _ :: _, _ :: _, [], _, h => by simp at h
  | _ :: _, _ :: _, sz :: _, ⟨h1, h2⟩, h => ⟨nilO_ok sz h1, nilO_all h2 (by simpa using h)⟩
  | [], _ :: _, _, h, _ => h.elim
  | _ :: _, [], _, h, _ => h.elim
theorem L.nilGO {t : Nat} {cs : List CV} (szs : List Nat) (ht : σ.lookup t = some (.v (.g cs))) (hl : Nat.beq cs.length szs.length = true) (h : L P C n ops Q rest ((t, .v (.g (List.zipWith nilO cs szs))) :: σ) Ω) : L P C n ops Q rest σ Ω :=
  fun a w hs ha => h a w hs (ha.weak ht fun v hv => by
    obtain ⟨us, rfl, hu⟩ := hv
    exact ⟨us, rfl, nilO_all hu (by simpa using hl)⟩)
/-- A struct stored in a part of an own block. -/
theorem L.stgp {t : TypeId} {x y : Operand} {b o sz : Nat} {T : TypeId} {cs ys : List CV} {Ω' : List Ob} (i : Nat) (hsz : (P.info? t).map (·.size) = some sz) (hx : ev σ x = some (aP b o)) (hy : ev σ y = some (.v (.g ys))) (hi : Ω[i]? = some (.blk b T cs)) (hl : ys.length = sz) (ho : o + sz ≤ cs.length) (hΩ : setL Ω i (.blk b T (cs.take o ++ ys ++ cs.drop (o + sz))) = some Ω')
    (h : L P C n ops Q rest σ Ω') : L P C n ops Q ({ dst := none, op := .store t x y, type := ty, pos, after, guard := none } :: rest) σ Ω := by
  obtain ⟨A, B, rfl, rfl⟩ := setL_split hΩ hi
  refine L.act rfl rfl (fun a w hs ha => ?_) h
  obtain ⟨us, hb, hu⟩ := hs.blk hi
  obtain ⟨v, hv, vs, rfl, hr⟩ := ha.val hy
  obtain ⟨ti, hti, hs1⟩ := Option.map_eq_some_iff.1 hsz
  have hlen := hu.length
  have hlen2 := hr.length
  have hone : ∀ u ∈ vs, u.oneCell' = true := by
    intro u hu
    obtain ⟨j, hj⟩ := List.getElem?_of_mem hu
    obtain ⟨c, _, hc⟩ := hr.getl hj
    exact hc.one
  have hvl : vs.length = sz := by omega
  have hst := run_storeCells_at P b o T vs 0 us.toArray w hb (by simp; omega) hone
  have hrow := setRow_heap w b us.toArray (us.take o ++ vs ++ us.drop (o + sz)).toArray T (0, 0) hb
  obtain ⟨h1, h2⟩ := hs.set (w' := w.setRow b (us.take o ++ vs ++ us.drop (o + sz)).toArray) (us.take o ++ vs ++ us.drop (o + sz)) rfl rfl rfl (by simp) (fun r hr => setRow_other w b r _ hr) hrow (((hu.take o).append hr).append (hu.drop (o + sz)))
  refine ⟨_, ?_, h1, h2⟩
  simp only [Nat.add_zero, hvl] at hst
  simp [execOp, Instr.storeAt, ha.ptr hx, hv, Instr.sureAddr, storeVar, Value.cells, sizeOf, typeInfo, hti, hvl, hs1, hst]

/-! ### What is left of a region, in any order -/
theorem G.sub {K : Act → World → Prop} (s : Sub σ σ') (h : G C n K σ' Ω) : G C n K σ Ω := fun a w hs ha => h a w hs (ha.sub s)
theorem LA.sub {l : List Oper} {fuel : Nat} {listed : Array Bool} (s : Sub σ σ') (h : LA P C n l Q fuel listed σ' Ω) : LA P C n l Q fuel listed σ Ω := fun a w hs ha => h a w hs (ha.sub s)
theorem LA.fin {l : List Oper} {fuel : Nat} {listed : Array Bool} {σf : Env} {Ωf : List Ob} (h1 : G C n (Q .normal) σf Ωf) (h : G C n (Q .normal) σf Ωf → LA P C n l Q fuel listed σ Ω) : LA P C n l Q fuel listed σ Ω := h h1
theorem G.la {l : List Oper} {fuel : Nat} {listed : Array Bool} (h : LA P C n l Q fuel listed σ Ω) : G C n (NX Q (wpAnyIn C.F 0 P .any l.toArray Q fuel listed) .normal) σ Ω := h
end
end Go.Q
