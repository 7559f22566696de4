/- Slices over own blocks whose cells are known to the value: read, cut, copied, appended to; given up as data. copy, append, overlaps on blocks whose cells are known; given up as data. -/
import Derived.Test.YtimimkdgofiloaaGreatDoorQk
import Derived.Lib.AppendZerosOnto
import Derived.Lib.Overlaps
import Derived.Deep.AppendSrc
namespace Go.Q
open Go

abbrev rawB (g : Nat) (T : TypeId) (cur : List Value) : Ob := .raw g (.cells cur.toArray T (0, 0))
abbrev slV (g o n c : Nat) : Value := .slice (some ⟨g, o, none⟩) n c

section
variable {P : Program} {C : Ctx} {n : Nat} {ops : Array Oper} {Q : Pst} {rest : List Oper} {σ : Env} {Ω Ω' : List Ob} {d : Nat} {ty : TypeId} {pos : String} {after : Array Edge}

theorem St.rawAt {w : World} (hs : St C Ω w) {i g : Nat} {x : Obj} (hi : Ω[i]? = some (.raw g x)) : w.heap[g]? = some x := hs.obs _ (List.mem_of_getElem? hi)

theorem L.lenX {t e : TypeId} {x : Operand} {a : Option Addr} {m c : Nat} (hu : P.underlying t = some (.slice e)) (hx : ev σ x = some (aR (.slice a m c))) (hdn : Nat.blt d n = true) (h : L P C n ops Q rest ((d, aN m) :: σ) Ω) :
    L P C n ops Q ({ dst := some d, op := .call { callee := .builtin .len, args := #[x], argTypes := #[t] }, type := ty, pos, after, guard := none } :: rest) σ Ω :=
  L.pure rfl rfl hdn (fun _ _ _ ha => ⟨.int .i64 m, by simp [execOp, resolve, invoke, builtin, Builtin.len_, run_underlying hu, ha.raw hx, goInt], rI⟩) h

theorem L.capX {t e : TypeId} {x : Operand} {a : Option Addr} {m c : Nat} (hu : P.underlying t = some (.slice e)) (hx : ev σ x = some (aR (.slice a m c))) (hdn : Nat.blt d n = true) (h : L P C n ops Q rest ((d, aN c) :: σ) Ω) :
    L P C n ops Q ({ dst := some d, op := .call { callee := .builtin .cap, args := #[x], argTypes := #[t] }, type := ty, pos, after, guard := none } :: rest) σ Ω :=
  L.pure rfl rfl hdn (fun _ _ _ ha => ⟨.int .i64 c, by simp [execOp, resolve, invoke, builtin, Builtin.cap_, run_underlying hu, ha.raw hx, goInt], rI⟩) h

theorem L.ixX {t e : TypeId} {x y : Operand} {g o c m sz : Nat} {k : IntKind} {z : Int} (j : Nat) (hu : P.underlying t = some (.slice e)) (hsz : (P.info? e).map (·.size) = some sz) (hx : ev σ x = some (aR (slV g o m c))) (hy : ev σ y = some (aI k z)) (hz : z = (j : Int)) (hj : j < m) (hdn : Nat.blt d n = true)
    (h : L P C n ops Q rest ((d, aP g (o + j * sz)) :: σ) Ω) : L P C n ops Q ({ dst := some d, op := .indexAddr t x y, type := ty, pos, after, guard := none } :: rest) σ Ω := by
  obtain ⟨ti, hti, rfl⟩ := Option.map_eq_some_iff.1 hsz
  refine L.pure rfl rfl hdn (fun a w hs ha => ⟨.pointer (some ⟨g, o + j * ti.size, none⟩), ?_, rP⟩) h
  subst hz
  simp [execOp, Instr.indexAt, ha.raw hx, ha.int hy, asIntOf, run_underlying hu, hj, sizeOf, typeInfo, hti, Addr.add_lit]

/-- One cell. -/
theorem L.ldX {t T : TypeId} {x : Operand} {g o : Nat} {cur : List Value} {u : Value} (i : Nat) (h1 : one P t = true) (hx : ev σ x = some (aP g o)) (hi : Ω[i]? = some (rawB g T cur)) (hy : cur[o]? = some u) (hone : u.oneCell' = true) (hdn : Nat.blt d n = true)
    (h : L P C n ops Q rest ((d, .v (.c (kCV u))) :: σ) Ω) : L P C n ops Q ({ dst := some d, op := .load t x, type := ty, pos, after, guard := none } :: rest) σ Ω := by
  refine L.pure rfl rfl hdn (fun a w hs ha => ?_) h
  have hb := hs.rawAt hi
  have hcell : w.cell? ⟨g, o, none⟩ = some u := by rw [cell_of_row w g o cur.toArray T (0, 0) hb]; simpa using hy
  exact ⟨u, by simp [execOp, Instr.loadAt, ha.ptr hx, Instr.sureAddr, loadVar, run_isAgg_one h1, hcell], kCV_ok hone⟩

/-- A struct. -/
theorem L.ldgX {t T : TypeId} {sz : Nat} {x : Operand} {g o : Nat} {cur us : List Value} (i : Nat) (h1 : agg P t = true) (hsz : (P.info? t).map (·.size) = some sz) (hx : ev σ x = some (aP g o)) (hi : Ω[i]? = some (rawB g T cur)) (hy : (cur.drop o).take sz = us) (hl : us.length = sz) (hone : us.all Value.oneCell' = true) (hdn : Nat.blt d n = true)
    (h : L P C n ops Q rest ((d, .v (.g (us.map kCV))) :: σ) Ω) : L P C n ops Q ({ dst := some d, op := .load t x, type := ty, pos, after, guard := none } :: rest) σ Ω := by
  refine L.pure rfl rfl hdn (fun a w hs ha => ?_) h
  have hb := hs.rawAt hi
  have hr := run_loadVar_agg (P := P) (w := w) (b := g) (o := o) (us := us) h1 hsz hl (fun j u hu => by
    rw [cell_of_row w g (o + j) cur.toArray T (0, 0) hb]
    rw [← hy, List.getElem?_take] at hu
    split at hu
    · simpa using hu
    · simp at hu)
  exact ⟨.agg us.toArray, by simp [execOp, Instr.loadAt, ha.ptr hx, Instr.sureAddr, hr], us, rfl, all2_k hone⟩

/-- The exact value that an abstract cell stands for. -/
def exV : CV → Option Value
  | .d (.i k m) => some (.int k m)
  | .d (.b b) => some (.bool b)
  | .d (.s s) => some (.string s)
  | .r v => some v
  | _ => none
theorem exV_ok {Y : List Nat} {w : World} {v u : Value} {c : CV} (h : exV c = some u) (hr : Rcv Y w v c) : v = u := by
  unfold exV at h
  split at h
  · have h' : Rc Y w v _ := hr
    simp at h; subst h; exact Rc.int_inv h'
  · have h' : Rc Y w v _ := hr
    simp at h; subst h; exact Rc.bool_inv h'
  · have h' : Rc Y w v _ := hr
    simp at h; subst h; exact Rc.str_inv h'
  · simp at h; subst h; exact hr.1
  · cases h
def exVs : List CV → Option (List Value)
  | [] => some []
  | c :: cs => match exV c, exVs cs with
    | some v, some r => some (v :: r)
    | _, _ => none
theorem exVs_ok {Y : List Nat} {w : World} : ∀ {cs : List CV} {vs us : List Value}, exVs cs = some us → All2 (Rcv Y w) vs cs → vs = us
  | [], [], us, h, _ => by simp [exVs] at h; exact h.symm ▸ rfl
  | c :: cs, v :: vs, us, h, ⟨h1, h2⟩ => by
    simp only [exVs] at h
    cases e1 : exV c with
    | none => simp [e1] at h
    | some u =>
      cases e2 : exVs cs with
      | none => simp [e1, e2] at h
      | some r =>
        simp [e1, e2] at h
        subst h
        rw [exV_ok e1 h1, exVs_ok e2 h2]
  | [], _ :: _, _, _, h => h.elim
  | _ :: _, [], _, _, h => h.elim

theorem St.setX {A B : List Ob} {g : Nat} {T : TypeId} {cur : List Value} {w : World} (h : St C (A ++ rawB g T cur :: B) w) (new : List Value) :
    St C (A ++ rawB g T new :: B) (w.setRow g new.toArray) ∧ Step (owns (A ++ rawB g T cur :: B) ++ C.X) (owns (A ++ rawB g T new :: B) ++ C.X) w (w.setRow g new.toArray) := by
  have hb : w.heap[g]? = some (.cells cur.toArray T (0, 0)) := h.obs (rawB g T cur) (by simp)
  exact h.setRaw rfl rfl rfl (by simp) (fun r hr => setRow_other w g r _ hr) (setRow_heap w g cur.toArray new.toArray T (0, 0) hb)

/-- A store of a struct. -/
theorem L.stgX {t T : TypeId} {x y : Operand} {g o sz : Nat} {cur us : List Value} {cs : List CV} (i : Nat) (cur' : List Value) (hsz : (P.info? t).map (·.size) = some sz) (hx : ev σ x = some (aP g o)) (hy : ev σ y = some (.v (.g cs))) (hus : exVs cs = some us) (hl : us.length = sz) (hi : Ω[i]? = some (rawB g T cur)) (ho : o + sz ≤ cur.length)
    (hc : cur.take o ++ us ++ cur.drop (o + sz) = cur') (hΩ : setL Ω i (rawB g T cur') = some Ω')
    (h : L P C n ops Q rest σ Ω') : L P C n ops Q ({ dst := none, op := .store t x y, type := ty, pos, after, guard := none } :: rest) σ Ω := by
  obtain ⟨A, B, rfl, rfl⟩ := setL_split hΩ hi
  refine L.act rfl rfl (fun a w hs ha => ?_) h
  have hb := hs.rawAt hi
  obtain ⟨v, hv, vs, rfl, hr⟩ := ha.val hy
  obtain ⟨ti, hti, hs1⟩ := Option.map_eq_some_iff.1 hsz
  have hone : ∀ u ∈ vs, u.oneCell' = true := by
    intro u hu
    obtain ⟨j, hj⟩ := List.getElem?_of_mem hu
    obtain ⟨c, _, hc⟩ := hr.getl hj
    exact hc.one
  obtain rfl := exVs_ok hus hr
  have hst := run_storeCells_at P g o T vs 0 cur.toArray w hb (by simp; omega) hone
  obtain ⟨h1, h2⟩ := hs.setX cur'
  refine ⟨_, ?_, h1, h2⟩
  simp only [Nat.add_zero, hl, hc] at hst
  have hsz' : vs.length = ti.size := by omega
  simp [execOp, Instr.storeAt, ha.ptr hx, hv, Instr.sureAddr, storeVar, Value.cells, sizeOf, typeInfo, hti, hsz', hst]

/-- s[a:b] of a slice. -/
theorem L.slX {t e : TypeId} {x : Operand} {lo hi : Option Operand} {g o m c sz : Nat} (a b o' : Nat) (hu : P.underlying t = some (.slice e)) (hsz : (P.info? e).map (·.size) = some sz) (hx : ev σ x = some (aR (slV g o m c))) (hlo : bnd σ lo a 0) (hhi : bnd σ hi b m) (hab : a ≤ b ∧ b ≤ c) (ho : o' = (if c = a then o else o + a * sz)) (hdn : Nat.blt d n = true)
    (h : L P C n ops Q rest ((d, aR (slV g o' (b - a) (c - a))) :: σ) Ω) : L P C n ops Q ({ dst := some d, op := .slice t x lo hi none, type := ty, pos, after, guard := none } :: rest) σ Ω := by
  obtain ⟨ti, hti, rfl⟩ := Option.map_eq_some_iff.1 hsz
  refine L.pure rfl rfl hdn (fun a' w hs ha => ⟨slV g o' (b - a) (c - a), ?_, rR rfl⟩) h
  obtain ⟨h1, h2⟩ := hab
  have e0 := ha.raw hx
  have hfin : (Value.slice (if c = a then some (⟨g, o, none⟩ : Addr) else (some (⟨g, o, none⟩ : Addr)).map (·.add (a * ti.size))) (b - a) (c - a)) = slV g o' (b - a) (c - a) := by
    subst ho
    by_cases hc : c = a
    · simp [hc]
    · simp [hc, Addr.add_lit]
  cases lo with
  | none =>
    have hlo' : a = 0 := hlo
    subst hlo'
    cases hi with
    | none =>
      have hhi' : b = m := hhi
      subst hhi'
      rw [← hfin]
      simp [execOp, Instr.sliceAt, Instr.slice, run_underlying hu, e0, Instr.sliceBounds, sizeOf, typeInfo, hti]
    | some y =>
      obtain ⟨k, hy⟩ := hhi
      rw [← hfin]
      simp [execOp, Instr.sliceAt, Instr.slice, run_underlying hu, e0, Instr.sliceBounds, ha.int hy, Instr.sliceBound, asIntOf, h2, sizeOf, typeInfo, hti]
  | some y =>
    obtain ⟨k, hy⟩ := hlo
    cases hi with
    | none =>
      have hhi' : b = m := hhi
      subst hhi'
      rw [← hfin]
      simp [execOp, Instr.sliceAt, Instr.slice, run_underlying hu, e0, Instr.sliceBounds, ha.int hy, Instr.sliceBound, asIntOf, h1, sizeOf, typeInfo, hti]
    | some z =>
      obtain ⟨k', hz⟩ := hhi
      rw [← hfin]
      simp [execOp, Instr.sliceAt, Instr.slice, run_underlying hu, e0, Instr.sliceBounds, ha.int hy, ha.int hz, Instr.sliceBound, asIntOf, h1, h2, sizeOf, typeInfo, hti]

end
end Go.Q
namespace Go.Q
open Go
section
variable {P : Program} {C : Ctx} {n : Nat} {ops : Array Oper} {Q : Pst} {rest : List Oper} {σ : Env} {Ω Ω' : List Ob} {d : Nat} {ty : TypeId} {pos : String} {after : Array Edge}

theorem raw_cells {w : World} {g : Nat} {T : TypeId} {cur us : List Value} {o : Nat} (hb : w.heap[g]? = some (.cells cur.toArray T (0, 0))) (hus : (cur.drop o).take us.length = us) : ∀ (j : Nat) (u : Value), us[j]? = some u → w.cell? ((⟨g, o, none⟩ : Addr).add j) = some u := by
  intro j u hu
  rw [Addr.add_lit, cell_of_row w g (o + j) cur.toArray T (0, 0) hb]
  rw [← hus, List.getElem?_take] at hu
  split at hu
  · simpa using hu
  · simp at hu

/-- copy. -/
theorem L.cpX {t t' e T T2 : TypeId} {x y : Operand} {g o dl dc g2 o2 sl sc sz : Nat} {cur cur2 us : List Value} (i j : Nat) (cur' : List Value) (hu : P.underlying t = some (.slice e)) (hsz : (P.info? e).map (·.size) = some sz) (hx : ev σ x = some (aR (slV g o dl dc))) (hy : ev σ y = some (aR (slV g2 o2 sl sc)))
    (hi : Ω[i]? = some (rawB g T cur)) (hj : Ω[j]? = some (rawB g2 T2 cur2)) (hus : (cur2.drop o2).take (Nat.min sl dl * sz) = us) (hl : us.length = Nat.min sl dl * sz) (hone : us.all Value.oneCell' = true) (ho : o + us.length ≤ cur.length)
    (hc : cur.take o ++ us ++ cur.drop (o + us.length) = cur') (hΩ : setL Ω i (rawB g T cur') = some Ω') (hdn : Nat.blt d n = true)
    (h : L P C n ops Q rest ((d, aN (Nat.min sl dl : Nat)) :: σ) Ω') : L P C n ops Q ({ dst := some d, op := .call { callee := .builtin .copy, args := #[x, y], argTypes := #[t, t'] }, type := ty, pos, after, guard := none } :: rest) σ Ω := by
  obtain ⟨A, B, rfl, rfl⟩ := setL_split hΩ hi
  obtain ⟨ti, hti, rfl⟩ := Option.map_eq_some_iff.1 hsz
  refine L.any rfl rfl hdn fun a w hs ha => ?_
  have hb := hs.rawAt hi
  have hb2 := hs.rawAt hj
  have hone' : ∀ u ∈ us, u.oneCell' = true := by simpa using hone
  have hld := run_loadCells_list (P := P) w ⟨g2, o2, none⟩ us (raw_cells hb2 (by rw [hl]; exact hus))
  have hst := run_storeCells_at P g o T us 0 cur.toArray w hb (by simpa using ho) hone'
  simp only [Nat.add_zero, hc] at hst
  refine ⟨.int .i64 (Nat.min sl dl : Nat), _, aN _, _, ?_, hs.setX cur', rI, h⟩
  rw [hl] at hld
  simp [execOp, resolve, invoke, builtin, ha.raw hx, ha.raw hy, Builtin.copy_, run_underlying hu, Builtin.lenOf, Builtin.firstCells, sizeOf, typeInfo, hti, hld, hst, goInt]

/-- slices.overlaps. -/
def isOvl (P : Program) (f : FuncId) (tS tR : TypeId) : Prop := ∃ fn, P.funcs[f]? = some fn ∧ (fn.name == "runtime.NumGoroutine") = false ∧ fn.body.isNone = true ∧ Extern.findNext fn = none ∧ Extern.find fn = some (Extern.SlicesOverlaps.overlaps #[tS, tS] #[tR])

theorem L.ovl {f : FuncId} {tS tR e T T2 : TypeId} {x y : Operand} {ts : Array TypeId} {g o dl dc g2 o2 sl sc sz : Nat} {cur cur2 : List Value} (i j : Nat) (hf : isOvl P f tS tR) (hu : P.underlying tS = some (.slice e)) (hsz : (P.info? e).map (·.size) = some sz) (hx : ev σ x = some (aR (slV g o dl dc))) (hy : ev σ y = some (aR (slV g2 o2 sl sc)))
    (hi : Ω[i]? = some (rawB g T cur)) (hj : Ω[j]? = some (rawB g2 T2 cur2)) (hij : i ≠ j) (hc2 : 0 < cur2.length) (hdn : Nat.blt d n = true)
    (h : L P C n ops Q rest ((d, aB false) :: σ) Ω) :
    L P C n ops Q ({ dst := some d, op := .call { callee := .value (.func f), args := #[x, y], argTypes := ts }, type := ty, pos, after, guard := none } :: rest) σ Ω := by
  refine L.pure rfl rfl hdn (fun a w hs ha => ⟨.bool false, ?_, rB⟩) h
  obtain ⟨fn, h1, h2, h3, h4, h5⟩ := hf
  have hb := hs.rawAt hi
  have hb2 := hs.rawAt hj
  obtain ⟨ti, hti, rfl⟩ := Option.map_eq_some_iff.1 hsz
  have hne : g ≠ g2 := by
    intro e
    subst e
    have hnd := hs.nodup
    have hil := (List.getElem?_eq_some_iff.1 hi)
    have hjl := (List.getElem?_eq_some_iff.1 hj)
    obtain ⟨hil, hig⟩ := hil
    obtain ⟨hjl, hjg⟩ := hjl
    have hp : ∀ (i j : Nat) (hi : i < Ω.length) (hj : j < Ω.length), i < j → Ω[i] = rawB g T cur → Ω[j] = rawB g T2 cur2 → False := by
      intro i j hi hj hlt h1 h2
      have hs1 : Ω = Ω.take i ++ Ω[i] :: Ω.drop (i + 1) := by rw [← List.drop_eq_getElem_cons hi, List.take_append_drop]
      have hm : rawB g T2 cur2 ∈ Ω.drop (i + 1) := by
        rw [← h2]
        have : Ω[j] = (Ω.drop (i + 1))[j - (i + 1)]'(by rw [List.length_drop]; omega) := by
          rw [List.getElem_drop]; congr 1; omega
        rw [this]; exact List.getElem_mem _
      rw [hs1, h1, owns_append, owns_cons] at hnd
      have hnd2 := (List.nodup_append.1 hnd).2.1
      have hnd3 := (List.nodup_append.1 hnd2).2.2
      exact hnd3 g (by simp [Ob.own]) g (List.mem_flatMap.2 ⟨_, hm, by simp [Ob.own]⟩) rfl
    have hp2 : ∀ (i j : Nat) (hi : i < Ω.length) (hj : j < Ω.length), i < j → Ω[i] = rawB g T2 cur2 → Ω[j] = rawB g T cur → False := by
      intro i j hi hj hlt h1 h2
      have hs1 : Ω = Ω.take i ++ Ω[i] :: Ω.drop (i + 1) := by rw [← List.drop_eq_getElem_cons hi, List.take_append_drop]
      have hm : rawB g T cur ∈ Ω.drop (i + 1) := by
        rw [← h2]
        have : Ω[j] = (Ω.drop (i + 1))[j - (i + 1)]'(by rw [List.length_drop]; omega) := by
          rw [List.getElem_drop]; congr 1; omega
        rw [this]; exact List.getElem_mem _
      rw [hs1, h1, owns_append, owns_cons] at hnd
      have hnd2 := (List.nodup_append.1 hnd).2.1
      have hnd3 := (List.nodup_append.1 hnd2).2.2
      exact hnd3 g (by simp [Ob.own]) g (List.mem_flatMap.2 ⟨_, hm, by simp [Ob.own]⟩) rfl
    rcases Nat.lt_or_gt_of_ne hij with h6 | h6
    · exact hp i j hil hjl h6 hig hjg
    · exact hp2 j i hjl hil h6 hjg hig
  have hov := Lib.run_overlaps_apart (P := P) w tS tR e hu ti.size (fun w => by simp [sizeOf, typeInfo, hti]) ⟨g, o, none⟩ ⟨g2, o2, none⟩ dl dc sl sc hne T T2 cur.length cur2.length
    (by simp [World.shape?, hb]) (by simp [World.shape?, hb2]) (by omega) (by simp [World.frozen?, hb]) (by simp [World.frozen?, hb])
  have e0 : a.eval (.func f) = .func (.func f) #[] #[] := rfl
  simp [execOp, resolve, Deferred.ofValue, e0, invoke, run_callFunc_extern h1 h2 h3 h4 h5, ha.raw hx, ha.raw hy, hov]

/-- append onto a row at the head of its block, of a row in another. -/
theorem L.apX {t t' e e' T T2 : TypeId} {x y : Operand} {g m c g2 o2 k c2 sz bytes : Nat} {zv : Value} {cur cur2 us : List Value} (i j : Nat) (hu : P.underlying t = some (.slice e)) (hu' : P.underlying t' = some (.slice e')) (hinfo : (P.info? e).map (fun i => (i.zero, i.size, i.bytes)) = some (some zv, sz, bytes)) (hzs : Nat.beq zv.cells.size sz = true)
    (hx : ev σ x = some (aR (slV g 0 m c))) (hy : ev σ y = some (aR (slV g2 o2 k c2))) (hi : Ω[i]? = some (rawB g T cur)) (hj : Ω[j]? = some (rawB g2 T2 cur2)) (hus : (cur2.drop o2).take (k * sz) = us) (hl : us.length = k * sz) (hone : us.all Value.oneCell' = true)
    (hcur : c * sz ≤ cur.length) (hmc : m ≤ c) (hm : (m + k) * bytes ≤ 140737488355328 ∧ m + k ≤ 9223372036854775807) (hdn : Nat.blt d n = true)
    (h1 : m + k ≤ c → ∃ Ω', setL Ω i (rawB g T (cur.take (m * sz) ++ us ++ cur.drop (m * sz + us.length))) = some Ω' ∧ L P C n ops Q rest ((d, aR (slV g 0 (m + k) c)) :: σ) Ω')
    (h2 : c < m + k → ∀ g' c' rs, m + k ≤ c' → c' ≤ maxLen → rs.length = (c' - (m + k)) * sz → L P C n ops Q rest ((d, aR (slV g' 0 (m + k) c')) :: σ) (rawB g' e (cur.take (m * sz) ++ us ++ rs) :: Ω)) :
    L P C n ops Q ({ dst := some d, op := .call { callee := .builtin .append, args := #[x, y], argTypes := #[t, t'] }, type := ty, pos, after, guard := none } :: rest) σ Ω := by
  obtain ⟨ti, hti, hz0, hz1, hz2⟩ := info_parts hinfo
  subst hz1
  subst hz2
  refine L.any rfl rfl hdn fun a w hs ha => ?_
  have hb := hs.rawAt hi
  have hb2 := hs.rawAt hj
  have hone' : ∀ u ∈ us, u.oneCell' = true := by simpa using hone
  have hsrc := Src.ofSlice (P := P) w (size := ti.size) hu' ⟨g2, o2, none⟩ k c2 us hl (raw_cells hb2 (by rw [hl]; exact hus)) hone'
  by_cases hroom : m + k ≤ c
  · obtain ⟨Ω', hΩ, hL⟩ := h1 hroom
    obtain ⟨A, B, rfl, rfl⟩ := setL_split hΩ hi
    have hst := run_storeCells_at P g (m * ti.size) T us 0 cur.toArray w hb (by simp only [Nat.add_zero, List.size_toArray]; rw [hl, ← Nat.add_mul]; exact Nat.le_trans (Nat.mul_le_mul_right _ hroom) hcur) hone'
    simp only [Nat.add_zero] at hst
    refine ⟨slV g 0 (m + k) c, _, aR _, _, ?_, hs.setX (cur.take (m * ti.size) ++ us ++ cur.drop (m * ti.size + us.length)), rR rfl, hL⟩
    simp [execOp, resolve, invoke, builtin, ha.raw hx, ha.raw hy, Builtin.append_, run_underlying hu, run_underlying hu', sizeOf, typeInfo, hti, hsrc.len, hroom, hsrc.cells, Addr.add_lit, hst]
  · have hlt : c < m + k := by omega
    have hml : m * ti.size ≤ cur.length := Nat.le_trans (Nat.mul_le_mul_right _ hmc) hcur
    have hold : (Builtin.firstCells ti.size m (.slice (some ⟨g, 0, none⟩) m c)).run P w.drew = .ok (cur.take (m * ti.size)).toArray w.drew := by
      refine run_firstCells_some w.drew ti.size m ⟨g, 0, none⟩ m c (cur.take (m * ti.size)) (by rw [List.length_take]; omega) ?_
      have hb' : w.drew.heap[g]? = some (.cells cur.toArray T (0, 0)) := hb
      exact raw_cells hb' (by rw [List.drop_zero, List.length_take, Nat.min_eq_left hml])
    have hr := run_append_grow_src (P := P) w t t' ty e ti zv hu hti hz0 (some ⟨g, 0, none⟩) m c _ hold (slV g2 o2 k c2) k us hsrc hlt (by omega) (growslice_fits (by omega) hm.1)
    have hge := grownCap_ge w (m + k) c e
    have hle := grownCap_le_maxLen w (m + k) c e (by simp only [maxLen]; omega)
    have hnew := (hs.drew.1).allocRaw (.cells ((cur.take (m * ti.size) ++ us).toArray ++ Builtin.zeroCells zv.cells (grownCap w (m + k) c e - (m + k))) e)
    have hraw : (Obj.cells ((cur.take (m * ti.size) ++ us).toArray ++ Builtin.zeroCells zv.cells (grownCap w (m + k) c e - (m + k))) e (0, 0)) = .cells ((cur.take (m * ti.size) ++ us ++ (Builtin.zeroCells zv.cells (grownCap w (m + k) c e - (m + k))).toList).toArray) e (0, 0) := by
      congr 1
      apply Array.ext'
      simp
    refine ⟨slV w.heap.size 0 (m + k) (grownCap w (m + k) c e), w.drew.alloc (.cells ((cur.take (m * ti.size) ++ us).toArray ++ Builtin.zeroCells zv.cells (grownCap w (m + k) c e - (m + k))) e), aR _, rawB w.heap.size e (cur.take (m * ti.size) ++ us ++ (Builtin.zeroCells zv.cells (grownCap w (m + k) c e - (m + k))).toList) :: Ω, ?_, ?_, rR rfl, h2 hlt _ _ _ hge hle ?_⟩
    · simp [execOp, resolve, invoke, builtin, ha.raw hx, ha.raw hy, hr]
    · rw [hraw] at hnew
      rw [hraw]
      exact ⟨hnew.1, hs.drew.2.trans hnew.2⟩
    · rw [Array.length_toList, size_zeroCells]
      congr 1
      simpa using hzs

/-- append onto the nil slice. -/
theorem L.apN {t t' e e' T2 : TypeId} {x y : Operand} {g2 o2 k c2 sz bytes : Nat} {zv : Value} {cur2 us : List Value} (j : Nat) (hu : P.underlying t = some (.slice e)) (hu' : P.underlying t' = some (.slice e')) (hinfo : (P.info? e).map (fun i => (i.zero, i.size, i.bytes)) = some (some zv, sz, bytes)) (hzs : Nat.beq zv.cells.size sz = true)
    (hx : ev σ x = some (aR (.slice none 0 0))) (hy : ev σ y = some (aR (slV g2 o2 k c2))) (hj : Ω[j]? = some (rawB g2 T2 cur2)) (hus : (cur2.drop o2).take (k * sz) = us) (hl : us.length = k * sz) (hone : us.all Value.oneCell' = true)
    (hk : 0 < k) (hm : k * bytes ≤ 140737488355328 ∧ k ≤ 9223372036854775807) (hdn : Nat.blt d n = true)
    (h2 : ∀ g' c' rs, k ≤ c' → c' ≤ maxLen → rs.length = (c' - k) * sz → L P C n ops Q rest ((d, aR (slV g' 0 k c')) :: σ) (rawB g' e (us ++ rs) :: Ω)) :
    L P C n ops Q ({ dst := some d, op := .call { callee := .builtin .append, args := #[x, y], argTypes := #[t, t'] }, type := ty, pos, after, guard := none } :: rest) σ Ω := by
  obtain ⟨ti, hti, hz0, hz1, hz2⟩ := info_parts hinfo
  subst hz1
  subst hz2
  refine L.any rfl rfl hdn fun a w hs ha => ?_
  have hb2 := hs.rawAt hj
  have hone' : ∀ u ∈ us, u.oneCell' = true := by simpa using hone
  have hsrc := Src.ofSlice (P := P) w (size := ti.size) hu' ⟨g2, o2, none⟩ k c2 us hl (raw_cells hb2 (by rw [hl]; exact hus)) hone'
  have hr := run_append_grow_src (P := P) w t t' ty e ti zv hu hti hz0 none 0 0 [] (run_firstCells_none w.drew ti.size 0 0 0) (slV g2 o2 k c2) k us hsrc (by omega) (by omega) (growslice_fits (by omega) (by rw [Nat.zero_add]; exact hm.1))
  rw [Nat.zero_add] at hr
  have hge := grownCap_ge w k 0 e
  have hle := grownCap_le_maxLen w k 0 e (by simp only [maxLen]; omega)
  have hnew := (hs.drew.1).allocRaw (.cells ((([] : List Value) ++ us).toArray ++ Builtin.zeroCells zv.cells (grownCap w k 0 e - k)) e)
  have hraw : (Obj.cells ((([] : List Value) ++ us).toArray ++ Builtin.zeroCells zv.cells (grownCap w k 0 e - k)) e (0, 0)) = .cells ((us ++ (Builtin.zeroCells zv.cells (grownCap w k 0 e - k)).toList).toArray) e (0, 0) := by
    congr 1
    apply Array.ext'
    simp
  refine ⟨slV w.heap.size 0 k (grownCap w k 0 e), w.drew.alloc (.cells ((([] : List Value) ++ us).toArray ++ Builtin.zeroCells zv.cells (grownCap w k 0 e - k)) e), aR _, rawB w.heap.size e (us ++ (Builtin.zeroCells zv.cells (grownCap w k 0 e - k)).toList) :: Ω, ?_, ?_, rR rfl, h2 _ _ _ hge hle ?_⟩
  · simp only [execOp, resolve, invoke, builtin]
    simp [ha.raw hx, ha.raw hy, hr]
  · rw [hraw] at hnew
    rw [hraw]
    exact ⟨hnew.1, hs.drew.2.trans hnew.2⟩
  · rw [Array.length_toList, size_zeroCells]
    congr 1
    simpa using hzs

/-- append of so many zeros onto the head of a row, beyond its room. -/
theorem L.apZ {t t' e T : TypeId} {x y : Operand} {g m c k sz bytes : Nat} {kn : IntKind} {zv : Value} {cur : List Value} (i : Nat) (hu : P.underlying t = some (.slice e)) (hu' : P.underlying t' = some (.int kn)) (hinfo : (P.info? e).map (fun i => (i.zero, i.size, i.bytes)) = some (some zv, sz, bytes)) (hzs : Nat.beq zv.cells.size sz = true) (hsz : Nat.blt 0 sz = true)
    (hx : ev σ x = some (aR (slV g 0 m c))) (hy : ev σ y = some (aN (k : Int))) (hi : Ω[i]? = some (rawB g T cur)) (hml : m * sz ≤ cur.length) (hk : 0 < k) (hg : c < m + k) (hm : (m + k) * bytes ≤ 140737488355328 ∧ m + k ≤ 9223372036854775807) (hdn : Nat.blt d n = true)
    (h2 : ∀ g' c' rs, m + k ≤ c' → c' ≤ maxLen → rs.length = (c' - m) * sz → L P C n ops Q rest ((d, aR (slV g' 0 (m + k) c')) :: σ) (rawB g' e (cur.take (m * sz) ++ rs) :: Ω)) :
    L P C n ops Q ({ dst := some d, op := .call { callee := .builtin .append, args := #[x, y], argTypes := #[t, t'] }, type := ty, pos, after, guard := none } :: rest) σ Ω := by
  obtain ⟨ti, hti, hz0, hz1, hz2⟩ := info_parts hinfo
  subst hz1
  subst hz2
  refine L.any rfl rfl hdn fun a w hs ha => ?_
  have hb := hs.rawAt hi
  have hold : (Builtin.firstCells ti.size m (.slice (some ⟨g, 0, none⟩) m c)).run P w.drew = .ok (cur.take (m * ti.size)).toArray w.drew := by
    refine run_firstCells_some w.drew ti.size m ⟨g, 0, none⟩ m c (cur.take (m * ti.size)) (by rw [List.length_take]; omega) ?_
    have hb' : w.drew.heap[g]? = some (.cells cur.toArray T (0, 0)) := hb
    exact raw_cells hb' (by rw [List.drop_zero, List.length_take, Nat.min_eq_left hml])
  have hkb : k * ti.bytes ≤ 281474976710656 := by
    have : k * ti.bytes ≤ (m + k) * ti.bytes := Nat.mul_le_mul_right _ (by omega)
    omega
  have hr := Lib.run_append_grow_zeros (P := P) w t t' ty e ti zv .i64 kn hu hu' hti hz0 (some ⟨g, 0, none⟩) m c _ hold k hk (by simpa using hsz) hg (by omega) hkb (growslice_fits (by omega) hm.1)
  have hge := grownCap_ge w (m + k) c e
  have hle := grownCap_le_maxLen w (m + k) c e (by simp only [maxLen]; omega)
  have hzs' : zv.cells.size = ti.size := by simpa using hzs
  have hnew := (hs.drew.1).allocRaw (.cells ((cur.take (m * ti.size)).toArray ++ Builtin.zeroCells zv.cells k ++ Builtin.zeroCells zv.cells (grownCap w (m + k) c e - (m + k))) e)
  have hraw : (Obj.cells ((cur.take (m * ti.size)).toArray ++ Builtin.zeroCells zv.cells k ++ Builtin.zeroCells zv.cells (grownCap w (m + k) c e - (m + k))) e (0, 0)) = .cells ((cur.take (m * ti.size) ++ ((Builtin.zeroCells zv.cells k).toList ++ (Builtin.zeroCells zv.cells (grownCap w (m + k) c e - (m + k))).toList)).toArray) e (0, 0) := by
    congr 1
    apply Array.ext'
    simp
  refine ⟨slV w.heap.size 0 (m + k) (grownCap w (m + k) c e), w.drew.alloc (.cells ((cur.take (m * ti.size)).toArray ++ Builtin.zeroCells zv.cells k ++ Builtin.zeroCells zv.cells (grownCap w (m + k) c e - (m + k))) e), aR _, rawB w.heap.size e (cur.take (m * ti.size) ++ ((Builtin.zeroCells zv.cells k).toList ++ (Builtin.zeroCells zv.cells (grownCap w (m + k) c e - (m + k))).toList)) :: Ω, ?_, ?_, rR rfl, h2 _ _ _ hge hle ?_⟩
  · simp only [execOp, resolve, invoke, builtin]
    simp [ha.raw hx, ha.int hy, hr]
  · rw [hraw] at hnew
    rw [hraw]
    exact ⟨hnew.1, hs.drew.2.trans hnew.2⟩
  · rw [List.length_append, Array.length_toList, Array.length_toList, size_zeroCells, size_zeroCells, hzs', ← Nat.add_mul]
    congr 1
    omega

end
end Go.Q
