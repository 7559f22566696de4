/- Maps whose keys are strings; bytes and strings converted; more of numbers; results in cells. -/
import Derived.Test.YtimimkdgofiloaaGreatDoorQv
import Derived.Maps.RangeRun
import Derived.Lib.ConvBytes
import Derived.Lib.Bytealg
import Derived.Laws.BytesArg
namespace Go.Q
open Go Go.ChangeMaps Go.MapKept

/-- The value that a cell's abstract value is, where there is one alone. -/
def cvV : CV → Value
  | .d (.i k n) => .int k n
  | .d (.b x) => .bool x
  | .d (.s x) => .string x
  | .r v => v
  | .p b o => .pointer (some ⟨b, o, none⟩)
  | _ => .nilFunc
def okCV : CV → Bool
  | .d (.l _ _) => false
  | .d _ => true
  | .r v => v.oneCell'
  | .p _ _ => true
  | _ => false
theorem cvV_eq {X : List Nat} {w : World} {v : Value} {c : CV} (hk : okCV c = true) (h : Rcv X w v c) : v = cvV c := by
  cases c with
  | d x => cases x with
    | i k n => exact Rc.int_inv h
    | b x => exact Rc.bool_inv h
    | s x => exact Rc.str_inv h
    | l _ _ => cases hk
  | p b o => exact h
  | r u => exact h.1
  | ip _ => cases hk
  | y _ _ => cases hk
theorem cvV_ok {X : List Nat} {w : World} {c : CV} (hk : okCV c = true) : Rcv X w (cvV c) c := by
  cases c with
  | d x => cases x with
    | i k n => exact Rc.i _ _
    | b x => exact Rc.b _
    | s x => exact Rc.s _
    | l _ _ => cases hk
  | p b o => exact (rfl : Value.pointer (some ⟨b, o, none⟩) = _)
  | r u => exact ⟨rfl, hk⟩
  | ip _ => cases hk
  | y _ _ => cases hk
def svV : SV → Value
  | .c x => cvV x
  | .g xs => .agg (xs.map cvV).toArray
def okSV : SV → Bool
  | .c x => okCV x
  | .g xs => xs.all okCV
theorem svV_all {X : List Nat} {w : World} : ∀ {xs : List CV} {us : List Value}, (∀ x ∈ xs, okCV x = true) → All2 (Rcv X w) us xs → us = xs.map cvV
  | [], [], _, _ => rfl
  | x :: xs, u :: us, hk, ⟨h1, h2⟩ => by rw [List.map_cons, ← cvV_eq (hk x (by simp)) h1, ← svV_all (fun y hy => hk y (by simp [hy])) h2]
  | [], _ :: _, _, h => h.elim
  | _ :: _, [], _, h => h.elim
theorem svV_eq {X : List Nat} {w : World} {v : Value} : ∀ {c : SV}, okSV c = true → Rsv X w v c → v = svV c
  | .c x, hk, h => cvV_eq hk h
  | .g xs, hk, ⟨us, h1, h2⟩ => by
    subst h1
    rw [svV_all (List.all_eq_true.1 hk) h2]; rfl
theorem svV_ok {X : List Nat} {w : World} : ∀ {c : SV}, okSV c = true → Rsv X w (svV c) c
  | .c x, hk => cvV_ok hk
  | .g xs, hk => by
    refine ⟨xs.map cvV, rfl, ?_⟩
    have hk' : ∀ x ∈ xs, okCV x = true := List.all_eq_true.1 hk
    clear hk
    induction xs with
    | nil => trivial
    | cons x xs ih => exact ⟨cvV_ok (hk' x (by simp)), ih fun y hy => hk' y (by simp [hy])⟩

/-- A map's entries, in the order in which they came. -/
def mapE (ps : List (ByteArray × SV)) : Array MapEntry := (ps.zipIdx.map fun q => (⟨.string q.1.1, svV q.1.2, q.2⟩ : MapEntry)).toArray
abbrev mapB (g : Nat) (ps : List (ByteArray × SV)) : Ob := .raw g (.map (mapE ps) ps.length)
def lookV : List (ByteArray × SV) → ByteArray → Option SV
  | [], _ => none
  | p :: ps, k => if p.1 = k then some p.2 else lookV ps k
theorem lookV_none {ps : List (ByteArray × SV)} {k : ByteArray} : lookV ps k = none ↔ ∀ p ∈ ps, p.1 ≠ k := by
  induction ps with
  | nil => simp [lookV]
  | cons p ps ih => unfold lookV; split <;> simp_all
theorem lookV_mem : ∀ {ps : List (ByteArray × SV)} {k : ByteArray} {s : SV}, lookV ps k = some s → (k, s) ∈ ps
  | p :: ps, k, s, h => by
    unfold lookV at h
    split at h
    · rename_i e; simp only [Option.some.injEq] at h; subst h; subst e; exact List.mem_cons_self ..
    · exact List.mem_cons_of_mem _ (lookV_mem h)
theorem mapE_push (ps : List (ByteArray × SV)) (k : ByteArray) (s : SV) : (mapE ps).push ⟨.string k, svV s, ps.length⟩ = mapE (ps ++ [(k, s)]) := by
  unfold mapE
  rw [List.zipIdx_append, List.map_append]
  simp
theorem mapE_size (ps : List (ByteArray × SV)) : (mapE ps).size = ps.length := by simp [mapE]
theorem findNow_str (k : ByteArray) : ∀ (ps : List (ByteArray × SV)) (j i : Nat), ∃ r, Instr.findNow .string (.string k) ((ps.zipIdx j).map fun q => (⟨.string q.1.1, svV q.1.2, q.2⟩ : MapEntry)) i = some r ∧ r.map (·.2) = (lookV ps k).map svV
  | [], j, i => ⟨none, rfl, rfl⟩
  | p :: ps, j, i => by
    simp only [List.zipIdx_cons, List.map_cons, Instr.findNow, Instr.sameNow, lookV]
    have hbe : (k == p.1) = decide (p.1 = k) := by
      by_cases h : p.1 = k
      · rw [decide_eq_true h, (bytes_beq k p.1).2 h.symm]
      · rw [decide_eq_false h]
        exact Bool.eq_false_iff.2 fun e => h ((bytes_beq k p.1).1 e).symm
    rw [hbe]
    by_cases h : p.1 = k
    · rw [decide_eq_true h, if_pos h]
      exact ⟨_, rfl, rfl⟩
    · rw [decide_eq_false h, if_neg h]
      exact findNow_str k ps (j + 1) (i + 1)

section
variable {P : Program} {C : Ctx} {n : Nat} {ops : Array Oper} {Q : Pst} {rest : List Oper} {σ σ' : Env} {Ω Ω' : List Ob} {d : Nat} {ty : TypeId} {pos : String} {after : Array Edge}

theorem run_checkKey_str {kt : TypeId} {e : Bool} {k : ByteArray} (hk : P.underlying kt = some .string) (w : World) : (Instr.checkKey e 10000 kt (.string k)).run P w = .ok () w := by
  exact run_checkKey (k := .string k) hk trivial e 9999
theorem run_findKey_str {kt : TypeId} (hk : P.underlying kt = some .string) (k : ByteArray) (ps : List (ByteArray × SV)) (w : World) : ∃ r, (Instr.findKey kt (.string k) (mapE ps).toList).run P w = .ok r w ∧ r.map (·.2) = (lookV ps k).map svV := by
  obtain ⟨r, h1, h2⟩ := findNow_str k ps 0 0
  refine ⟨r, ?_, h2⟩
  simp only [Instr.findKey, Sem.run_bind, run_underlying hk, Result.andThen]
  unfold mapE
  rw [List.toList_toArray, h1]
  rfl

/-- make(map[string]T); a map written out. -/
theorem L.mkMap {t : TypeId} (hdn : Nat.blt d n = true) (h : ∀ g, L P C n ops Q rest ((d, aR (.map (some g))) :: σ) (mapB g [] :: Ω)) :
    L P C n ops Q ({ dst := some d, op := .makeMap t none, type := ty, pos, after, guard := none } :: rest) σ Ω := by
  refine L.any rfl rfl hdn fun a w hs ha => ⟨.map (some w.heap.size), _, aR (.map (some w.heap.size)), _, ?_, hs.allocRaw (.map (mapE []) 0), rR rfl, h _⟩
  simp [execOp, Instr.makeMap, mapE, run_newObj_alloc]

theorem run_setObj_raw {w : World} {r : Nat} {x : Obj} (hr : w.heap[r]? = some x) (o' : Obj) (hx : ∀ c e f, x ≠ .cells c e f) : (setObj r o').run P w = .ok () (setBlock w r o') := by
  simp only [setObj, Sem.run, hr, setBlock]

/-- A new key laid into an own map. -/
theorem mapPut_go {w : World} {g : Nat} {ps : List (ByteArray × SV)} {A B : List Ob} (hs : St C (A ++ mapB g ps :: B) w) (k : ByteArray) (s : SV) :
    St C (A ++ mapB g (ps ++ [(k, s)]) :: B) (setBlock w g (.map (mapE (ps ++ [(k, s)])) (ps.length + 1))) ∧ Step (owns (A ++ mapB g ps :: B) ++ C.X) (owns (A ++ mapB g (ps ++ [(k, s)]) :: B) ++ C.X) w (setBlock w g (.map (mapE (ps ++ [(k, s)])) (ps.length + 1))) := by
  have hg : w.heap[g]? = some (.map (mapE ps) ps.length) := hs.obs (mapB g ps) (by simp)
  have hlt : g < w.heap.size := (Array.getElem?_eq_some_iff.1 hg).1
  have := hs.setRaw (w' := setBlock w g (.map (mapE (ps ++ [(k, s)])) (ps.length + 1))) (x' := .map (mapE (ps ++ [(k, s)])) (ps.length + 1)) rfl rfl rfl (by simp [setBlock]) (fun r hr => by simp [setBlock, Ne.symm hr]) (by simp [setBlock, hlt])
  simpa [mapB] using this

theorem run_mapUpdate_new {t kt e : TypeId} {w : World} {g : Nat} {ps : List (ByteArray × SV)} {k : ByteArray} {v : Value} (ht : P.underlying t = some (.map kt e)) (hk : P.underlying kt = some .string) (hg : w.heap[g]? = some (.map (mapE ps) ps.length)) (hno : lookV ps k = none) :
    (Instr.mapUpdate t (.map (some g)) (.string k) v).run P w = .ok () (setBlock w g (.map ((mapE ps).push ⟨.string k, v, ps.length⟩) (ps.length + 1))) := by
  obtain ⟨r, h1, h2⟩ := run_findKey_str (P := P) hk k ps w
  rw [hno] at h2
  have hr : r = none := by simpa using h2
  subst hr
  simp only [Instr.mapUpdate, Sem.run_bind, run_underlying ht, Result.andThen, getObj, Sem.run, hg, run_checkKey_str hk, h1]
  exact run_setObj_raw hg _ (fun _ _ _ h => by cases h)

theorem L.mapIns {t kt e : TypeId} {m k v : Operand} {g : Nat} {key : ByteArray} {s : SV} {ps : List (ByteArray × SV)} {Ω' : List Ob} (i : Nat) (ht : P.underlying t = some (.map kt e)) (hk : P.underlying kt = some .string) (hm : ev σ m = some (aR (.map (some g)))) (hkey : ev σ k = some (aS key)) (hv : ev σ v = some (.v s))
    (hok : okSV s = true) (hi : Ω[i]? = some (mapB g ps)) (hno : lookV ps key = none) (hΩ : setL Ω i (mapB g (ps ++ [(key, s)])) = some Ω')
    (h : L P C n ops Q rest σ Ω') : L P C n ops Q ({ dst := none, op := .insert t m k v, type := ty, pos, after, guard := none } :: rest) σ Ω := by
  obtain ⟨A, B, rfl, rfl⟩ := (setAt_of hΩ).split hi
  refine L.act rfl rfl (fun a w hs ha => ?_) h
  obtain ⟨u, hu, hr⟩ := ha.val hv
  have hu' : u = svV s := svV_eq hok hr
  subst hu'
  have hg : w.heap[g]? = some (.map (mapE ps) ps.length) := hs.obs (mapB g ps) (by simp)
  obtain ⟨h1, h2⟩ := mapPut_go hs key s
  refine ⟨_, ?_, h1, h2⟩
  have := run_mapUpdate_new (P := P) (v := svV s) ht hk hg hno
  rw [mapE_push] at this
  simp [execOp, ha.raw hm, ha.str hkey, hu, this]
theorem L.mapPut {t kt e : TypeId} {m k v : Operand} {g : Nat} {key : ByteArray} {s : SV} {ps : List (ByteArray × SV)} {Ω' : List Ob} (i : Nat) (ht : P.underlying t = some (.map kt e)) (hk : P.underlying kt = some .string) (hm : ev σ m = some (aR (.map (some g)))) (hkey : ev σ k = some (aS key)) (hv : ev σ v = some (.v s))
    (hok : okSV s = true) (hi : Ω[i]? = some (mapB g ps)) (hno : lookV ps key = none) (hΩ : setL Ω i (mapB g (ps ++ [(key, s)])) = some Ω')
    (h : L P C n ops Q rest σ Ω') : L P C n ops Q ({ dst := none, op := .mapUpdate t m k v, type := ty, pos, after, guard := none } :: rest) σ Ω := by
  obtain ⟨A, B, rfl, rfl⟩ := (setAt_of hΩ).split hi
  refine L.act rfl rfl (fun a w hs ha => ?_) h
  obtain ⟨u, hu, hr⟩ := ha.val hv
  have hu' : u = svV s := svV_eq hok hr
  subst hu'
  have hg : w.heap[g]? = some (.map (mapE ps) ps.length) := hs.obs (mapB g ps) (by simp)
  obtain ⟨h1, h2⟩ := mapPut_go hs key s
  refine ⟨_, ?_, h1, h2⟩
  have := run_mapUpdate_new (P := P) (v := svV s) ht hk hg hno
  rw [mapE_push] at this
  simp [execOp, ha.raw hm, ha.str hkey, hu, this]

theorem run_lookup_str {t kt e : TypeId} {w : World} {g : Nat} {ps : List (ByteArray × SV)} {k : ByteArray} {z : SV} {ok : Bool} (ht : P.underlying t = some (.map kt e)) (hk : P.underlying kt = some .string) (hz : (P.info? e).bind (·.zero) = some (svV z)) (hg : w.heap[g]? = some (.map (mapE ps) ps.length)) :
    (Instr.lookup t (.map (some g)) (.string k) ok).run P w = .ok (if ok then .tuple #[svV ((lookV ps k).getD z), .bool (lookV ps k).isSome] else svV ((lookV ps k).getD z)) w := by
  obtain ⟨r, h1, h2⟩ := run_findKey_str (P := P) hk k ps w
  obtain ⟨ti, hti, hzv⟩ := Option.bind_eq_some_iff.1 hz
  simp only [Instr.lookup, Sem.run_bind, run_underlying ht, Result.andThen, getObj, Sem.run, hg, run_checkKey_str hk, Sem.run_pure, h1]
  cases r with
  | none =>
    have hn : lookV ps k = none := by cases h : lookV ps k with
      | none => rfl
      | some x => rw [h] at h2; simp at h2
    rw [hn]
    have hzr : (zeroValue e).run P w = .ok (svV z) w := by simp [zeroValue, typeInfo, hti, hzv]
    simp [hzr]
  | some q =>
    cases h : lookV ps k with
    | none => rw [h] at h2; simp at h2
    | some x =>
      rw [h] at h2
      simp only [Option.map_some, Option.some.injEq] at h2
      simp [h2]

/-- m[k]. -/
theorem L.look {t kt e : TypeId} {m k : Operand} {g : Nat} {key : ByteArray} {ps : List (ByteArray × SV)} (i : Nat) (z : SV) (ht : P.underlying t = some (.map kt e)) (hk : P.underlying kt = some .string) (hz : (P.info? e).bind (·.zero) = some (svV z)) (hm : ev σ m = some (aR (.map (some g)))) (hkey : ev σ k = some (aS key))
    (hi : Ω[i]? = some (mapB g ps)) (hok : okSV ((lookV ps key).getD z) = true) (hdn : Nat.blt d n = true)
    (h : L P C n ops Q rest ((d, .v ((lookV ps key).getD z)) :: σ) Ω) : L P C n ops Q ({ dst := some d, op := .lookup t m k false, type := ty, pos, after, guard := none } :: rest) σ Ω := by
  refine L.pure (x := .v ((lookV ps key).getD z)) rfl rfl hdn (fun a w hs ha => ⟨svV ((lookV ps key).getD z), ?_, svV_ok hok⟩) h
  have hg : w.heap[g]? = some (.map (mapE ps) ps.length) := hs.obs _ (List.mem_of_getElem? hi)
  simp [execOp, ha.raw hm, ha.str hkey, run_lookup_str ht hk hz hg]
/-- v, ok := m[k]. -/
theorem L.lookOk {t kt e : TypeId} {m k : Operand} {g : Nat} {key : ByteArray} {ps : List (ByteArray × SV)} (i : Nat) (z : SV) (ht : P.underlying t = some (.map kt e)) (hk : P.underlying kt = some .string) (hz : (P.info? e).bind (·.zero) = some (svV z)) (hm : ev σ m = some (aR (.map (some g)))) (hkey : ev σ k = some (aS key))
    (hi : Ω[i]? = some (mapB g ps)) (hok : okSV ((lookV ps key).getD z) = true) (hdn : Nat.blt d n = true)
    (h : L P C n ops Q rest ((d, .t [(lookV ps key).getD z, .c (.d (.b (lookV ps key).isSome))]) :: σ) Ω) : L P C n ops Q ({ dst := some d, op := .lookup t m k true, type := ty, pos, after, guard := none } :: rest) σ Ω := by
  refine L.pure (x := .t [(lookV ps key).getD z, .c (.d (.b (lookV ps key).isSome))]) rfl rfl hdn (fun a w hs ha => ⟨.tuple #[svV ((lookV ps key).getD z), .bool (lookV ps key).isSome], ?_, [_, _], rfl, svV_ok hok, Rc.b _, trivial⟩) h
  have hg : w.heap[g]? = some (.map (mapE ps) ps.length) := hs.obs _ (List.mem_of_getElem? hi)
  simp [execOp, ha.raw hm, ha.str hkey, run_lookup_str ht hk hz hg]

/-! ### A range over a map -/
abbrev itB (r g N : Nat) (seen : List Nat) : Ob := .raw r (.mapIter (some g) N seen.toArray N)
theorem L.rngM {t kt e : TypeId} {x : Operand} {g : Nat} {ps : List (ByteArray × SV)} (i : Nat) (ht : P.underlying t = some (.map kt e)) (hx : ev σ x = some (aR (.map (some g)))) (hi : Ω[i]? = some (mapB g ps)) (hdn : Nat.blt d n = true)
    (h : ∀ b, L P C n ops Q rest ((d, aP b 0) :: σ) (itB b g ps.length [] :: Ω)) : L P C n ops Q ({ dst := some d, op := .range t x, type := ty, pos, after, guard := none } :: rest) σ Ω := by
  refine L.any rfl rfl hdn fun a w hs ha => ⟨.pointer (some ⟨w.heap.size, 0, none⟩), _, aP w.heap.size 0, _, ?_, hs.allocRaw (.mapIter (some g) ps.length #[] ps.length), rP, h _⟩
  have hg : w.heap[g]? = some (.map (mapE ps) ps.length) := hs.obs _ (List.mem_of_getElem? hi)
  simp only [execOp, ha.raw hx, Instr.range, Sem.run_bind, run_underlying ht, Result.andThen, getObj, Sem.run, hg]
  simp [run_newObj_alloc]

theorem mapE_get {ps : List (ByteArray × SV)} {e : MapEntry} (h : e ∈ (mapE ps).toList) : ∃ j, ∃ hj : j < ps.length, e = ⟨.string ps[j].1, svV ps[j].2, j⟩ := by
  unfold mapE at h
  simp only [List.toList_toArray, List.mem_map] at h
  obtain ⟨q, hq, rfl⟩ := h
  obtain ⟨h1, h2, h3⟩ := List.mem_zipIdx hq
  simp at h2 h3
  exact ⟨q.2, h2, by rw [h3]⟩
theorem mapE_mem (ps : List (ByteArray × SV)) {j : Nat} (hj : j < ps.length) : (⟨.string ps[j].1, svV ps[j].2, j⟩ : MapEntry) ∈ (mapE ps).toList := by
  unfold mapE
  simp only [List.toList_toArray, List.mem_map]
  refine ⟨(ps[j], j), ?_, rfl⟩
  rw [List.mem_zipIdx_iff_getElem?]; simp [hj]

/-- The next entry: there is none any more, or it's any that hasn't come up yet. -/
theorem L.nxtM {x : Operand} {b g : Nat} {ps : List (ByteArray × SV)} {seen : List Nat} (i j : Nat) (hx : ev σ x = some (aP b 0)) (hi : Ω[i]? = some (itB b g ps.length seen)) (hj : Ω[j]? = some (mapB g ps)) (hok : ∀ p ∈ ps, okSV p.2 = true) (hdn : Nat.blt d n = true)
    (hend : (∀ k, k < ps.length → k ∈ seen) → L P C n ops Q rest ((d, .t [.c (.d (.b false))]) :: σ) Ω)
    (hone : ∀ k (hk : k < ps.length), k ∉ seen → ∀ Ω', setL Ω i (itB b g ps.length (seen ++ [k])) = some Ω' → L P C n ops Q rest ((d, .t [.c (.d (.b true)), .c (.d (.s ps[k].1)), ps[k].2]) :: σ) Ω') :
    L P C n ops Q ({ dst := some d, op := .next x false, type := ty, pos, after, guard := none } :: rest) σ Ω := by
  refine L.any rfl rfl hdn fun a w hs ha => ?_
  have hb : w.heap[b]? = some (.mapIter (some g) ps.length seen.toArray ps.length) := hs.obs _ (List.mem_of_getElem? hi)
  have hg : w.heap[g]? = some (.map (mapE ps) ps.length) := hs.obs _ (List.mem_of_getElem? hj)
  have hlt : b < w.heap.size := (Array.getElem?_eq_some_iff.1 hb).1
  rcases run_next_at (P := P) w ty b g ps.length ps.length seen.toArray (mapE ps) ps.length hb hg (fun e he => by obtain ⟨k, hk, rfl⟩ := mapE_get he; exact hk) (Nat.le_refl _) with ⟨h0, hr⟩ | ⟨e, he, w1, hw1, hr⟩
  · refine ⟨_, w, .t [.c (.d (.b false))], Ω, by simp [execOp, ha.ptr hx, hr], ⟨hs, Step.refl _ _⟩, ⟨[_], rfl, Rc.b _, trivial⟩, hend fun k hk => ?_⟩
    have hem : leftOf (mapE ps) seen.toArray = #[] := Array.eq_empty_of_size_eq_zero h0
    unfold leftOf at hem
    rw [Array.filter_eq_empty_iff] at hem
    have := hem _ (by simpa using mapE_mem ps hk)
    simpa using this
  · have he' : e ∈ (mapE ps).toList ∧ e.born ∉ seen := by
      unfold leftOf at he
      simp at he
      exact ⟨by simpa using he.1, he.2⟩
    obtain ⟨k, hk, rfl⟩ := mapE_get he'.1
    obtain ⟨A, o, B, rfl, hAl⟩ : ∃ A o B, Ω = A ++ o :: B ∧ A.length = i := by
      obtain ⟨hi1, hi2⟩ := List.getElem?_eq_some_iff.1 hi
      exact ⟨Ω.take i, Ω[i], Ω.drop (i + 1), by simp, by rw [List.length_take]; omega⟩
    have ho : o = itB b g ps.length seen := by
      subst hAl
      simpa using hi
    subst ho
    have hset : setL (A ++ itB b g ps.length seen :: B) i (itB b g ps.length (seen ++ [k])) = some (A ++ itB b g ps.length (seen ++ [k]) :: B) := by
      subst hAl
      clear hi hj hs ha hx hb hg hlt hr he he' hend hone
      induction A with
      | nil => rfl
      | cons q A ih => simp only [List.cons_append, List.length_cons, setL, ih, Option.map_some]
    have hs1 : St C (A ++ itB b g ps.length seen :: B) w1 ∧ Step (owns (A ++ itB b g ps.length seen :: B) ++ C.X) (owns (A ++ itB b g ps.length seen :: B) ++ C.X) w w1 := by
      rcases hw1 with rfl | rfl
      · exact ⟨hs, Step.refl _ _⟩
      · exact hs.drew
    have hlt1 : b < w1.heap.size := by rcases hw1 with rfl | rfl <;> exact hlt
    obtain ⟨h1, h2⟩ := hs1.1.setRaw (w' := setBlock w1 b (.mapIter (some g) ps.length (seen ++ [k]).toArray ps.length)) (x' := .mapIter (some g) ps.length (seen ++ [k]).toArray ps.length) rfl rfl rfl (by simp [setBlock]) (fun r hr => by simp [setBlock, Ne.symm hr]) (by simp [setBlock, hlt1])
    refine ⟨_, _, .t [.c (.d (.b true)), .c (.d (.s ps[k].1)), ps[k].2], _, ?_, ⟨h1, hs1.2.trans h2⟩, ⟨[_, _, _], rfl, Rc.b _, Rc.s _, svV_ok (hok _ (List.getElem_mem _)), trivial⟩, hone k hk he'.2 _ hset⟩
    simp only [execOp, ha.ptr hx]
    have hp : seen.toArray.push k = (seen ++ [k]).toArray := by simp
    simp only [hp] at hr
    simp [hr]

/-- The round's key and value. -/
theorem L.entM {x : Operand} {b g k : Nat} {ps : List (ByteArray × SV)} {seen : List Nat} (i j : Nat) (hx : ev σ x = some (aP b 0)) (hi : Ω[i]? = some (itB b g ps.length (seen ++ [k]))) (hj : Ω[j]? = some (mapB g ps)) (hk : k < ps.length) (hok : ∀ p ∈ ps, okSV p.2 = true) (hdn : Nat.blt d n = true)
    (h : L P C n ops Q rest ((d, .t [.c (.d (.s ps[k].1)), ps[k].2]) :: σ) Ω) :
    L P C n ops Q ({ dst := some d, op := .entry x, type := ty, pos, after, guard := none } :: rest) σ Ω := by
  refine L.pure (x := .t [.c (.d (.s ps[k].1)), ps[k].2]) rfl rfl hdn (fun a w hs ha => ⟨.tuple #[.string ps[k].1, svV ps[k].2], ?_, [_, _], rfl, Rc.s _, svV_ok (hok _ (List.getElem_mem _)), trivial⟩) h
  have hb : w.heap[b]? = some (.mapIter (some g) ps.length (seen ++ [k]).toArray ps.length) := hs.obs _ (List.mem_of_getElem? hi)
  have hg : w.heap[g]? = some (.map (mapE ps) ps.length) := hs.obs _ (List.mem_of_getElem? hj)
  have hnd : ((mapE ps).toList.map (·.born)).Nodup := by
    unfold mapE
    simp only [List.toList_toArray, List.map_map]
    have : (MapEntry.born ∘ fun q : (ByteArray × SV) × Nat => (⟨.string q.1.1, svV q.1.2, q.2⟩ : MapEntry)) = Prod.snd := rfl
    rw [this, List.zipIdx_map_snd]
    exact List.nodup_range'
  have hp : (seen ++ [k]).toArray = seen.toArray.push k := by simp
  rw [hp] at hb
  have := run_entry_at (P := P) w b g ps.length seen.toArray (mapE ps) ps.length ⟨.string ps[k].1, svV ps[k].2, k⟩ hb hg (mapE_mem ps hk) hnd
  simp [execOp, ha.ptr hx, this]

/-! ### Numbers -/
/-- A struct's field. -/
theorem L.fld {s : TypeId} {x : Operand} {f m : Nat} {cs : List CV} {y : CV} {fs : Array Field} {fd : Field} (hu : P.underlying s = some (.struct fs)) (hf : fs[f]? = some fd) (h1 : one P fd.type = true) (hsz : (P.info? fd.type).map (·.size) = some 1) (hx : ev σ x = some (.v (.g cs))) (hm : fd.offset = m) (hy : cs[m]? = some y) (hdn : Nat.blt d n = true)
    (h : L P C n ops Q rest ((d, .v (.c y)) :: σ) Ω) : L P C n ops Q ({ dst := some d, op := .field s x f, type := ty, pos, after, guard := none } :: rest) σ Ω := by
  subst hm
  obtain ⟨ti, hti, hti'⟩ := Option.map_eq_some_iff.1 hsz
  refine L.pure rfl rfl hdn (fun a w hs ha => ?_) h
  obtain ⟨v, hv, us, rfl, hr⟩ := ha.val hx
  obtain ⟨u, hu', hru⟩ := hr.get hy
  refine ⟨u, ?_, hru⟩
  have hlt : fd.offset < us.length := (List.getElem?_eq_some_iff.1 hu').1
  have hgu : us[fd.offset] = u := (List.getElem?_eq_some_iff.1 hu').2
  simp [execOp, Instr.field, run_underlying hu, hf, hv, part, asAgg, run_isAgg_one h1, sizeOf, typeInfo, hti, hti', hu', hlt, hgu]

theorem L.arK (z : Int) {op : BinOp} {t u : TypeId} {x y : Operand} {k : IntKind} {a b c : Int} (hx : ev σ x = some (aI k a)) (hy : ev σ y = some (aI k b)) (hr : arI op a b = some c) (hz : k.wrap c = z) (hdn : Nat.blt d n = true)
    (h : L P C n ops Q rest ((d, aI k z) :: σ) Ω) : L P C n ops Q ({ dst := some d, op := .binOp op t x y u, type := ty, pos, after, guard := none } :: rest) σ Ω := by
  refine L.pure rfl rfl hdn (fun a' w hs ha => ⟨.int k z, ?_, rI⟩) h
  have e1 := ha.int hx
  have e2 := ha.int hy
  subst hz
  cases op <;> simp [arI] at hr <;> subst hr <;> simp [execOp, e1, e2, eqGuard, binOp, Op.intArith]
theorem L.quoN (z : Int) {t u : TypeId} {x y : Operand} {a b : Int} (hx : ev σ x = some (aN a)) (hy : ev σ y = some (aN b)) (hb : b ≠ 0) (hz : IntKind.i64.wrap (a.tdiv b) = z) (hdn : Nat.blt d n = true)
    (h : L P C n ops Q rest ((d, aN z) :: σ) Ω) : L P C n ops Q ({ dst := some d, op := .binOp .quo t x y u, type := ty, pos, after, guard := none } :: rest) σ Ω := by
  refine L.pure rfl rfl hdn (fun a' w hs ha => ⟨.int .i64 z, ?_, rI⟩) h
  subst hz
  simp [execOp, ha.int hx, ha.int hy, eqGuard, binOp, Op.intDiv, hb]
theorem L.remN (z : Int) {t u : TypeId} {x y : Operand} {a b : Int} (hx : ev σ x = some (aN a)) (hy : ev σ y = some (aN b)) (hb : b ≠ 0) (hz : a.tmod b = z) (hdn : Nat.blt d n = true)
    (h : L P C n ops Q rest ((d, aN z) :: σ) Ω) : L P C n ops Q ({ dst := some d, op := .binOp .rem t x y u, type := ty, pos, after, guard := none } :: rest) σ Ω := by
  refine L.pure rfl rfl hdn (fun a' w hs ha => ⟨.int .i64 z, ?_, rI⟩) h
  subst hz
  simp [execOp, ha.int hx, ha.int hy, eqGuard, binOp, Op.intDiv, hb]
/-- x & 3. -/
theorem L.and3 {t u : TypeId} {x y : Operand} {a : Int} (hx : ev σ x = some (aN a)) (hy : ev σ y = some (aN 3)) (hdn : Nat.blt d n = true)
    (h : ∀ z : Int, 0 ≤ z → z ≤ 3 → L P C n ops Q rest ((d, aN z) :: σ) Ω) : L P C n ops Q ({ dst := some d, op := .binOp .and t x y u, type := ty, pos, after, guard := none } :: rest) σ Ω := by
  refine L.any rfl rfl hdn fun a' w hs ha => ?_
  refine ⟨_, w, aN (IntKind.i64.wrap ((BitVec.ofInt 64 a &&& BitVec.ofInt 64 3).toNat : Int)), Ω, ?_, ⟨hs, Step.refl _ _⟩, rI, h _ ?_ ?_⟩
  · simp [execOp, ha.int hx, ha.int hy, eqGuard, binOp, Op.intBits, IntKind.bits]
    rfl
  all_goals
    have h3 : (BitVec.ofInt 64 a &&& BitVec.ofInt 64 3).toNat ≤ 3 := by
      rw [BitVec.toNat_and]
      exact Nat.and_le_right
    rw [wrap64_in (by omega) (by omega)]
    omega
theorem L.negN (z : Int) {t : TypeId} {x : Operand} {a : Int} (hx : ev σ x = some (aN a)) (hz : IntKind.i64.wrap (0 - a) = z) (hdn : Nat.blt d n = true)
    (h : L P C n ops Q rest ((d, aN z) :: σ) Ω) : L P C n ops Q ({ dst := some d, op := .unOp .neg t x, type := ty, pos, after, guard := none } :: rest) σ Ω := by
  refine L.pure rfl rfl hdn (fun a' w hs ha => ⟨.int .i64 z, ?_, rI⟩) h
  subst hz
  simp [execOp, ha.int hx, Op.unary, Op.intArith]

/-! ### Bytes and strings -/
theorem strOfNums_bys (s : ByteArray) : strOfNums (s.data.toList.map fun b => (b.toNat : Int)) = s := by
  unfold strOfNums
  cases s with
  | mk d =>
    congr 1
    rw [List.map_map]
    have : ((fun n : Int => UInt8.ofNat n.toNat) ∘ fun b : UInt8 => (b.toNat : Int)) = id := by
      funext b; simp
    rw [this]; simp
theorem L.cvBS {t u e : TypeId} {x : Operand} {s : ByteArray} (ht : P.underlying t = some (.slice e)) (he : P.underlying e = some (.int .u8)) (hu : P.underlying u = some .string) (hx : ev σ x = some (aL 1 (bys s))) (hdn : Nat.blt d n = true)
    (h : L P C n ops Q rest ((d, aS s) :: σ) Ω) : L P C n ops Q ({ dst := some d, op := .convert t u x, type := ty, pos, after, guard := none } :: rest) σ Ω := by
  refine L.pure rfl rfl hdn (fun a w hs ha => ⟨.string s, ?_, rS⟩) h
  obtain ⟨v, hv, hr⟩ := ha.val hx
  obtain ⟨A, c, rfl, _, _, hA⟩ := Rc.slice_inv hr
  have hlen : (bys s).length = s.data.toList.length := by simp [bys]
  rcases Nat.eq_zero_or_pos (bys s).length with h0 | hpos
  · have hs0 : s = ByteArray.empty := by
      have : s.data.toList = [] := List.eq_nil_of_length_eq_zero (by omega)
      cases s with
      | mk dd => simp at this; subst this; rfl
    subst hs0
    have hc0 : (convert t u (Value.slice A (bys ByteArray.empty).length c)).run P w = .ok (.string ByteArray.empty) w := by
      rw [show (convert t u (Value.slice A (bys ByteArray.empty).length c)).run P w = (Conv.bytesToString (.slice A 0 c)).run P w from run_convert_bytes_string w t u e A 0 c ht he hu]
      cases A with
      | none => rfl
      | some ad =>
        rw [run_bytesToString w ad 0 c [] (run_loadCells_list (P := P) w ad [] (fun _ _ h => by simp at h))]
        rfl
    simp only [execOp, hv, Sem.run_bind, hc0, Result.andThen]
    rfl
  · obtain ⟨b, o, rfl, hb, hX, hri⟩ := hA hpos
    have := run_convert_bytes_arg (P := P) w t e ht he b o (bys s).length c (s.data.toList.map fun b => (b.toNat : Int)) (by simp [bys]) (fun i hi => by
      have hi' : i < s.data.toList.length := by omega
      have hbi : (bys s)[i]? = some [D.i .u8 (s.data.toList[i].toNat : Int)] := by unfold bys; rw [List.getElem?_map, List.getElem?_eq_getElem hi']; rfl
      obtain ⟨_, _, us, hc, ha2⟩ := hri i _ hbi
      obtain ⟨q, hq, hrq⟩ := ha2.get (i := 0) rfl
      have := hc 0 q hq
      rw [Rc.int_inv hrq] at this
      simp only [Nat.mul_one, Nat.add_zero] at this
      rw [this, List.getD_eq_getElem?_getD, List.getElem?_map, List.getElem?_eq_getElem hi']
      rfl) u hu
    rw [strOfNums_bys] at this
    simp only [execOp, hv, Sem.run_bind, this, Result.andThen]
    rfl

theorem L.cvSB {t u e : TypeId} {x : Operand} {s : ByteArray} (ht : P.underlying t = some .string) (hu : P.underlying u = some (.slice e)) (he : P.underlying e = some (.int .u8)) (hx : ev σ x = some (aS s)) (hm : s.size ≤ 1000000) (hdn : Nat.blt d n = true)
    (h : L P C n ops Q rest ((d, aL 1 (bys s)) :: σ) Ω) : L P C n ops Q ({ dst := some d, op := .convert t u x, type := ty, pos, after, guard := none } :: rest) σ Ω := by
  refine L.any rfl rfl hdn fun a w hs ha => ?_
  have hgr : w.grownBy (Lib.bytesWorld w e s) none := ⟨rfl, rfl, rfl, by rw [Lib.bytesWorld_size]; omega, fun b hb _ => Lib.bytesWorld_at_old w e s b hb⟩
  have hmo := hs.more hgr
  refine ⟨_, _, aL 1 (bys s), Ω, by simp only [execOp, ha.str hx, Sem.run_bind, Lib.run_convert_string_bytes w t u e s ht hu he, Result.andThen]; rfl, hmo, ?_, h⟩
  have hnew : w.heap.size ∉ owns Ω ++ C.X := by
    intro hm
    rcases List.mem_append.1 hm with h1 | h1
    · have := hs.lt _ h1; omega
    · have := hs.xlt _ h1; have := hs.size; omega
  have hlen : (bys s).length = s.size := by simp [bys]
  have hcap : s.size ≤ grownCap w s.size 0 e := by
    exact grownCap_ge w s.size 0 e
  exact Rc.l w.heap.size 0 s.size _ 1 (bys s) (fun i _ => .int .u8 (s.data.toList.getD i 0).toNat) hlen hcap (by unfold maxLen; omega) (by rw [Lib.bytesWorld_size]; omega) hnew bys_one
    (fun i j hi hj => by
      have : j = 0 := by omega
      subst this
      simpa using Lib.bytesWorld_cell w e s i hi)
    (fun i j el dd he' hd => by
      have hi : i < s.data.toList.length := by have := (List.getElem?_eq_some_iff.1 he').1; simpa [bys] using this
      have : (bys s)[i]? = some [D.i .u8 (s.data.toList[i].toNat : Int)] := by unfold bys; rw [List.getElem?_map, List.getElem?_eq_getElem hi]; rfl
      rw [this] at he'
      simp only [Option.some.injEq] at he'
      subst he'
      cases j with
      | zero =>
        simp at hd; subst hd
        have e1 : s.data.toList.getD i 0 = s.data.toList[i] := by rw [List.getD_eq_getElem?_getD, List.getElem?_eq_getElem hi]; rfl
        rw [e1]; exact Rc.i _ _
      | succ j => simp at hd)

/-- bytealg.CountString. -/
def isCnt (P : Program) (f : FuncId) : Prop := ∃ fn, P.funcs[f]? = some fn ∧ (fn.name == "runtime.NumGoroutine") = false ∧ fn.body.isNone = true ∧ Extern.findNext fn = none ∧ Extern.find fn = some Extern.BytealgCount.count
theorem L.cntB {f : FuncId} {x y : Operand} {ts : Array TypeId} {s : ByteArray} {c : Int} (hf : isCnt P f) (hx : ev σ x = some (aS s)) (hy : ev σ y = some (aI .u8 c)) (hdn : Nat.blt d n = true)
    (h : L P C n ops Q rest ((d, aN (Lib.countByte s.data.toList c.toNat.toUInt8 : Nat)) :: σ) Ω) :
    L P C n ops Q ({ dst := some d, op := .call { callee := .value (.func f), args := #[x, y], argTypes := ts }, type := ty, pos, after, guard := none } :: rest) σ Ω := by
  refine L.pure rfl rfl hdn (fun a w hs ha => ⟨.int .i64 (Lib.countByte s.data.toList c.toNat.toUInt8 : Nat), ?_, rI⟩) h
  obtain ⟨fn, h1, h2, h3, h4, h5⟩ := hf
  have e0 : a.eval (.func f) = .func (.func f) #[] #[] := rfl
  simp [execOp, resolve, Deferred.ofValue, e0, invoke, run_callFunc_extern h1 h2 h3 h4 h5, ha.str hx, ha.int hy, Lib.run_countString]

/-- Two results that lie in own blocks of one cell each. -/
theorem cell_loads1 {t : Nat} {T T' : TypeId} {b i : Nat} {c : CV} {cs : List CV} (ht : σ.lookup t = some (aP b 0)) (h1 : one P T = true) (hi : Ω[i]? = some (.blk b T' (c :: cs))) {a : Act} {w : World} (hs : St C Ω w) (ha : Has n C.ds (owns Ω ++ C.X) w a σ) :
    ∃ v : Value, a.tmps[t]? = some (.pointer (some ⟨b, 0, none⟩)) ∧ (loadVar T ⟨b, 0, none⟩).run P w = .ok v w ∧ Rcv (owns Ω ++ C.X) w v c := by
  obtain ⟨v, hv, hr'⟩ := ha.get t _ ht
  have hv' : v = .pointer (some ⟨b, 0, none⟩) := hr'
  subst hv'
  obtain ⟨us, hb, hc⟩ := hs.blk hi
  obtain ⟨u, hu, hr⟩ := hc.get (i := 0) rfl
  refine ⟨u, hv, ?_, hr⟩
  have hcell : w.cell? ⟨b, 0, none⟩ = some u := by rw [cell_of_row w b 0 us.toArray T' (0, 0) hb]; simpa using hu
  simp [loadVar, run_isAgg_one h1, hcell]
theorem resC1C1 {fn : Func} {t u : Nat} {T T' U U' : TypeId} {b b' i j : Nat} {c c' : CV} {cs cs' : List CV} (hr : fn.results = #[.cell t T, .cell u U]) (ht : σ.lookup t = some (aP b 0)) (h1 : one P T = true) (hi : Ω[i]? = some (.blk b T' (c :: cs))) (hu : σ.lookup u = some (aP b' 0)) (h2 : one P U = true) (hj : Ω[j]? = some (.blk b' U' (c' :: cs'))) :
    ∀ a w, St C Ω w → Has n C.ds (owns Ω ++ C.X) w a σ → ∃ v, (results fn a.tmps).run P w = .ok v w ∧ Rav (owns Ω ++ C.X) w v (.t [.c c, .c c']) := by
  intro a w hs ha
  obtain ⟨v, k1, k2, k3⟩ := cell_loads1 ht h1 hi hs ha
  obtain ⟨v', k1', k2', k3'⟩ := cell_loads1 hu h2 hj hs ha
  exact ⟨.tuple #[v, v'], by simp [results, hr, k1, asAddr, k2, k1', k2'], [v, v'], rfl, k3, k3', trivial⟩

/-- The end of a body that holds one range over a function; then something owned is let go. -/
theorem G.retMW {fn : Func} {R : AV → List Ob → Prop} {x : AV} {X M : List Nat} {w0 : World} {D : Nat} {A B Ω' : List Ob} (hh : ∀ w, St ⟨X, M, w0, none, []⟩ (A ++ B) w → St ⟨X, M, w0, none, []⟩ Ω' w ∧ Step (owns (A ++ B) ++ X) (owns Ω' ++ X) w w)
    (hres : ∀ a w, St ⟨X, M, w0, none, [mk0 D]⟩ (A ++ B) w → Has n [mk0 D] (owns (A ++ B) ++ X) w a σ → ∃ v, (results fn a.tmps).run P w = .ok v w ∧ Rav (owns (A ++ B) ++ X) w v x) (hR : R x Ω') :
    G ⟨X, M, w0, none, [mk0 D]⟩ n (Post P fn ⟨X, M, w0, none, []⟩ R .ret) σ (A ++ .raw D (.deferred (some [])) :: B) := by
  intro a w hs ha
  have hobs : w.heap[D]? = some (.deferred (some [])) := hs.obs (.raw D (.deferred (some []))) (by simp)
  have hlt : D < w.heap.size := (Array.getElem?_eq_some_iff.1 hobs).1
  obtain ⟨hs1, hst1⟩ := hs.setRaw (w' := w.putObj D (.deferred none)) (x' := .deferred none) rfl rfl rfl World.putObj_size (fun r hr => putObj_other hr) (World.putObj_heap_same hlt)
  obtain ⟨hs2, hst2⟩ := hs1.drop
  have ha2 := (ha.step hst1).step hst2
  obtain ⟨v, h1, h2⟩ := hres a _ hs2 ha2
  obtain ⟨hs3, hst3⟩ := hh _ hs2.like
  have hd : a.defers = [mk0 D] := ha.defers
  show LeavesInM Fence.wide 0 P fn a.tmps _ a.defers .returning w
  rw [hd]
  refine ⟨by simp, .inl ⟨D, _, rfl, run_takeDeferred hobs, ?_⟩⟩
  exact ⟨v, h1, v, x, _, rfl, hR, hs3, h2.step hst3⟩
/-- Two things owned are let go. -/
theorem drop2 {o p : Ob} : ∀ w, St C [o, p] w → St C [] w ∧ Step (owns [o, p] ++ C.X) (owns [] ++ C.X) w w := fun w hs =>
  let h1 := hs.drop (A := []); let h2 := h1.1.drop (A := []); ⟨h2.1, h1.2.trans h2.2⟩

/-- Things owned are let go, one by one. -/
def delLs {α : Type} : List α → List Nat → Option (List α)
  | l, [] => some l
  | l, i :: is => match delL l i with
    | some l' => delLs l' is
    | none => none
theorem dropL {Ω Ω' : List Ob} : ∀ (is : List Nat), delLs Ω is = some Ω' → ∀ w, St C Ω w → St C Ω' w ∧ Step (owns Ω ++ C.X) (owns Ω' ++ C.X) w w
  | [], h, w, hs => by
    simp only [delLs, Option.some.injEq] at h; subst h; exact ⟨hs, Step.refl _ _⟩
  | i :: is, h, w, hs => by
    simp only [delLs] at h
    split at h
    · rename_i l' hl
      have hi : ∃ y, Ω[i]? = some y := by
        clear h hs
        induction Ω generalizing i l' with
        | nil => simp [delL] at hl
        | cons a Ω ih => cases i with
          | zero => exact ⟨a, rfl⟩
          | succ i =>
            simp only [delL] at hl
            cases hd : delL Ω i with
            | none => rw [hd] at hl; simp at hl
            | some m => obtain ⟨y, hy⟩ := ih i m hd; exact ⟨y, by simpa using hy⟩
      obtain ⟨y, hy⟩ := hi
      obtain ⟨h1, h2⟩ := drop_at hy hl w hs
      obtain ⟨h3, h4⟩ := dropL is h w h1
      exact ⟨h3, h2.trans h4⟩
    · cases h

/-- A bool that a slot holds, by what it is. -/
theorem G.setB {K : Act → World → Prop} {t : Nat} {b b' : Bool} (ht : σ.lookup t = some (aB b)) (hb : b = b') (h : G C n K ((t, aB b') :: σ) Ω) : G C n K σ Ω :=
  fun a w hs ha => h a w hs (ha.weak ht (by subst hb; exact fun _ h => h))
/-- A slot's value, by what it is. -/
theorem L.setV {t : Nat} {x y : AV} (ht : σ.lookup t = some x) (hb : x = y) (h : L P C n ops Q rest ((t, y) :: σ) Ω) : L P C n ops Q rest σ Ω :=
  fun a w hs ha => h a w hs (ha.weak ht (by subst hb; exact fun _ h => h))
end
end Go.Q
