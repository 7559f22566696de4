/- Slices over own blocks whose cells are known to the value: read, cut, copied, appended to; given up as data. -/
import Derived.Test.YtimimkdgofiloaaGreatDoorQl
import Derived.Lib.AppendZerosOnto
import Derived.Lib.Overlaps
import Derived.Deep.AppendSrc
namespace Go.Q
open Go

abbrev rawB (g : Nat) (T : TypeId) (cur : List Value) : Ob := .raw g (.cells cur.toArray T (0, 0))
abbrev slV (g o n c : Nat) : Value := .slice (some ⟨g, o, none⟩) n c

section
variable {P : Program} {C : Ctx} {n : Nat} {ops : Array Oper} {Q : Pst} {rest : List Oper} {σ : Env} {Ω Ω' : List Ob} {d : Nat} {ty : TypeId} {pos : String} {after : Array Edge}

theorem St.rawAt {w : World} (hs : St C Ω w) {i g : Nat} {x : Obj} (hi : Ω[i]? = some (.raw g x)) : w.heap[g]? = some x := hs.obs _ (List.mem_of_getElem? hi)

theorem L.lenX {t e : TypeId} {x : Operand} {a : Option Addr} {m c : Nat} (hu : P.underlying t = some (.slice e)) (hx : ev σ x = some (aR (.slice a m c))) (hdn : Nat.blt d n = true) (h : L P C n ops Q rest ((d, aN m) :: σ) Ω) :
    L P C n ops Q ({ dst := some d, op := .call { callee := .builtin .len, args := #[x], argTypes := #[t] }, type := ty, pos, after, guard := none } :: rest) σ Ω :=
  L.pure rfl rfl hdn (fun _ _ _ ha => ⟨.int .i64 m, by simp [execOp, resolve, invoke, builtin, Builtin.len_, run_underlying hu, ha.raw hx, goInt], rI⟩) h

theorem L.capX {t e : TypeId} {x : Operand} {a : Option Addr} {m c : Nat} (hu : P.underlying t = some (.slice e)) (hx : ev σ x = some (aR (.slice a m c))) (hdn : Nat.blt d n = true) (h : L P C n ops Q rest ((d, aN c) :: σ) Ω) :
    L P C n ops Q ({ dst := some d, op := .call { callee := .builtin .cap, args := #[x], argTypes := #[t] }, type := ty, pos, after, guard := none } :: rest) σ Ω :=
  L.pure rfl rfl hdn (fun _ _ _ ha => ⟨.int .i64 c, by simp [execOp, resolve, invoke, builtin, Builtin.cap_, run_underlying hu, ha.raw hx, goInt], rI⟩) h

theorem L.ixX {t e : TypeId} {x y : Operand} {g o c m sz : Nat} {k : IntKind} {z : Int} (j : Nat) (hu : P.underlying t = some (.slice e)) (hsz : (P.info? e).map (·.size) = some sz) (hx : ev σ x = some (aR (slV g o m c))) (hy : ev σ y = some (aI k z)) (hz : z = (j : Int)) (hj : j < m) (hdn : Nat.blt d n = true)
    (h : L P C n ops Q rest ((d, aP g (o + j * sz)) :: σ) Ω) : L P C n ops Q ({ dst := some d, op := .indexAddr t x y, type := ty, pos, after, guard := none } :: rest) σ Ω := by
  obtain ⟨ti, hti, rfl⟩ := Option.map_eq_some_iff.1 hsz
  refine L.pure rfl rfl hdn (fun a w hs ha => ⟨.pointer (some ⟨g, o + j * ti.size, none⟩), ?_, rP⟩) h
  subst hz
  simp [execOp, Instr.indexAt, ha.raw hx, ha.int hy, asIntOf, run_underlying hu, hj, sizeOf, typeInfo, hti, Addr.add_lit]

/-- One cell. -/
theorem L.ldX {t T : TypeId} {x : Operand} {g o : Nat} {cur : List Value} {u : Value} (i : Nat) (h1 : one P t = true) (hx : ev σ x = some (aP g o)) (hi : Ω[i]? = some (rawB g T cur)) (hy : cur[o]? = some u) (hone : u.oneCell' = true) (hdn : Nat.blt d n = true)
    (h : L P C n ops Q rest ((d, .v (.c (kCV u))) :: σ) Ω) : L P C n ops Q ({ dst := some d, op := .load t x, type := ty, pos, after, guard := none } :: rest) σ Ω := by
  refine L.pure rfl rfl hdn (fun a w hs ha => ?_) h
  have hb := hs.rawAt hi
  have hcell : w.cell? ⟨g, o, none⟩ = some u := by rw [cell_of_row w g o cur.toArray T (0, 0) hb]; simpa using hy
  exact ⟨u, by simp [execOp, Instr.loadAt, ha.ptr hx, Instr.sureAddr, loadVar, run_isAgg_one h1, hcell], kCV_ok hone⟩

/-- A struct. -/
theorem L.ldgX {t T : TypeId} {sz : Nat} {x : Operand} {g o : Nat} {cur us : List Value} (i : Nat) (h1 : agg P t = true) (hsz : (P.info? t).map (·.size) = some sz) (hx : ev σ x = some (aP g o)) (hi : Ω[i]? = some (rawB g T cur)) (hy : (cur.drop o).take sz = us) (hl : us.length = sz) (hone : us.all Value.oneCell' = true) (hdn : Nat.blt d n = true)
    (h : L P C n ops Q rest ((d, .v (.g (us.map kCV))) :: σ) Ω) : L P C n ops Q ({ dst := some d, op := .load t x, type := ty, pos, after, guard := none } :: rest) σ Ω := by
  refine L.pure rfl rfl hdn (fun a w hs ha => ?_) h
  have hb := hs.rawAt hi
  have hr := run_loadVar_agg (P := P) (w := w) (b := g) (o := o) (us := us) h1 hsz hl (fun j u hu => by
    rw [cell_of_row w g (o + j) cur.toArray T (0, 0) hb]
    rw [← hy, List.getElem?_take] at hu
    split at hu
    · simpa using hu
    · simp at hu)
  exact ⟨.agg us.toArray, by simp [execOp, Instr.loadAt, ha.ptr hx, Instr.sureAddr, hr], us, rfl, all2_k hone⟩

/-- The exact value that an abstract cell stands for. -/
def exV : CV → Option Value
  | .d (.i k m) => some (.int k m)
  | .d (.b b) => some (.bool b)
  | .d (.s s) => some (.string s)
  | .r v => some v
  | _ => none
theorem exV_ok {Y : List Nat} {w : World} {v u : Value} {c : CV} (h : exV c = some u) (hr : Rcv Y w v c) : v = u := by
  unfold exV at h
  split at h
  · have h' : Rc Y w v _ := hr
    simp at h; subst h; exact Rc.int_inv h'
  · have h' : Rc Y w v _ := hr
    simp at h; subst h; exact Rc.bool_inv h'
  · have h' : Rc Y w v _ := hr
    simp at h; subst h; exact Rc.str_inv h'
  · simp at h; subst h; exact hr.1
  · cases h
def exVs : List CV → Option (List Value)
  | [] => some []
  | c :: cs => match exV c, exVs cs with
    | some v, some r => some (v :: r)
    | _, _ => none
theorem exVs_ok {Y : List Nat} {w : World} : ∀ {cs : List CV} {vs us : List Value}, exVs cs = some us → All2 (Rcv Y w) vs cs → vs = us
  | [], [], us, h, _ => by simp [exVs] at h; exact h.symm ▸ rfl
  | c :: cs, v :: vs, us, h, ⟨h1, h2⟩ => by
    simp only [exVs] at h
    cases e1 : exV c with
    | none => simp [e1] at h
    | some u =>
      cases e2 : exVs cs with
      | none => simp [e1, e2] at h
      | some r =>
        simp [e1, e2] at h
        subst h
        rw [exV_ok e1 h1, exVs_ok e2 h2]
  | [], _ :: _, _, _, h => h.elim
  | _ :: _, [], _, _, h => h.elim

theorem St.setX {A B : List Ob} {g : Nat} {T : TypeId} {cur : List Value} {w : World} (h : St C (A ++ rawB g T cur :: B) w) (new : List Value) :
    St C (A ++ rawB g T new :: B) (w.setRow g new.toArray) ∧ Step (owns (A ++ rawB g T cur :: B) ++ C.X) (owns (A ++ rawB g T new :: B) ++ C.X) w (w.setRow g new.toArray) := by
  have hb : w.heap[g]? = some (.cells cur.toArray T (0, 0)) := h.obs (rawB g T cur) (by simp)
  exact h.setRaw rfl rfl rfl (by simp) (fun r hr => setRow_other w g r _ hr) (setRow_heap w g cur.toArray new.toArray T (0, 0) hb)

/-- A store of a struct. -/
theorem L.stgX {t T : TypeId} {x y : Operand} {g o sz : Nat} {cur us : List Value} {cs : List CV} (i : Nat) (cur' : List Value) (hsz : (P.info? t).map (·.size) = some sz) (hx : ev σ x = some (aP g o)) (hy : ev σ y = some (.v (.g cs))) (hus : exVs cs = some us) (hl : us.length = sz) (hi : Ω[i]? = some (rawB g T cur)) (ho : o + sz ≤ cur.length)
    (hc : cur.take o ++ us ++ cur.drop (o + sz) = cur') (hΩ : setL Ω i (rawB g T cur') = some Ω')
    (h : L P C n ops Q rest σ Ω') : L P C n ops Q ({ dst := none, op := .store t x y, type := ty, pos, after, guard := none } :: rest) σ Ω := by
  obtain ⟨A, B, rfl, rfl⟩ := setL_split hΩ hi
  refine L.act rfl rfl (fun a w hs ha => ?_) h
  have hb := hs.rawAt hi
  obtain ⟨v, hv, vs, rfl, hr⟩ := ha.val hy
  obtain ⟨ti, hti, hs1⟩ := Option.map_eq_some_iff.1 hsz
  have hone : ∀ u ∈ vs, u.oneCell' = true := by
    intro u hu
    obtain ⟨j, hj⟩ := List.getElem?_of_mem hu
    obtain ⟨c, _, hc⟩ := hr.getl hj
    exact hc.one
  obtain rfl := exVs_ok hus hr
  have hst := run_storeCells_at P g o T vs 0 cur.toArray w hb (by simp; omega) hone
  obtain ⟨h1, h2⟩ := hs.setX cur'
  refine ⟨_, ?_, h1, h2⟩
  simp only [Nat.add_zero, hl, hc] at hst
  have hsz' : vs.length = ti.size := by omega
  simp [execOp, Instr.storeAt, ha.ptr hx, hv, Instr.sureAddr, storeVar, Value.cells, sizeOf, typeInfo, hti, hsz', hst]

/-- s[a:b] of a slice. -/
theorem L.slX {t e : TypeId} {x : Operand} {lo hi : Option Operand} {g o m c sz : Nat} (a b o' : Nat) (hu : P.underlying t = some (.slice e)) (hsz : (P.info? e).map (·.size) = some sz) (hx : ev σ x = some (aR (slV g o m c))) (hlo : bnd σ lo a 0) (hhi : bnd σ hi b m) (hab : a ≤ b ∧ b ≤ c) (ho : o' = (if c = a then o else o + a * sz)) (hdn : Nat.blt d n = true)
    (h : L P C n ops Q rest ((d, aR (slV g o' (b - a) (c - a))) :: σ) Ω) : L P C n ops Q ({ dst := some d, op := .slice t x lo hi none, type := ty, pos, after, guard := none } :: rest) σ Ω := by
  obtain ⟨ti, hti, rfl⟩ := Option.map_eq_some_iff.1 hsz
  refine L.pure rfl rfl hdn (fun a' w hs ha => ⟨slV g o' (b - a) (c - a), ?_, rR rfl⟩) h
  obtain ⟨h1, h2⟩ := hab
  have e0 := ha.raw hx
  have hfin : (Value.slice (if c = a then some (⟨g, o, none⟩ : Addr) else (some (⟨g, o, none⟩ : Addr)).map (·.add (a * ti.size))) (b - a) (c - a)) = slV g o' (b - a) (c - a) := by
    subst ho
    by_cases hc : c = a
    · simp [hc]
    · simp [hc, Addr.add_lit]
  cases lo with
  | none =>
    have hlo' : a = 0 := hlo
    subst hlo'
    cases hi with
    | none =>
      have hhi' : b = m := hhi
      subst hhi'
      rw [← hfin]
      simp [execOp, Instr.sliceAt, Instr.slice, run_underlying hu, e0, Instr.sliceBounds, sizeOf, typeInfo, hti]
    | some y =>
      obtain ⟨k, hy⟩ := hhi
      rw [← hfin]
      simp [execOp, Instr.sliceAt, Instr.slice, run_underlying hu, e0, Instr.sliceBounds, ha.int hy, Instr.sliceBound, asIntOf, h2, sizeOf, typeInfo, hti]
  | some y =>
    obtain ⟨k, hy⟩ := hlo
    cases hi with
    | none =>
      have hhi' : b = m := hhi
      subst hhi'
      rw [← hfin]
      simp [execOp, Instr.sliceAt, Instr.slice, run_underlying hu, e0, Instr.sliceBounds, ha.int hy, Instr.sliceBound, asIntOf, h1, sizeOf, typeInfo, hti]
    | some z =>
      obtain ⟨k', hz⟩ := hhi
      rw [← hfin]
      simp [execOp, Instr.sliceAt, Instr.slice, run_underlying hu, e0, Instr.sliceBounds, ha.int hy, ha.int hz, Instr.sliceBound, asIntOf, h1, h2, sizeOf, typeInfo, hti]

end
end Go.Q
