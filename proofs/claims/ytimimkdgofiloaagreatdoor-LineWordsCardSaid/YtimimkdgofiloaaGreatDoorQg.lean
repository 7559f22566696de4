/- Slices written out and made; own rows read and written; closures; results that lie in memory. -/
import Derived.Test.YtimimkdgofiloaaGreatDoorQf
namespace Go.Q
open Go

def cellsD : List CV → Option (List D)
  | [] => some []
  | .d x :: r => match cellsD r with
    | some l => some (x :: l)
    | none => none
  | _ => none

theorem cellsD_eq : ∀ {l : List CV} {m : List D}, cellsD l = some m → l = m.map .d
  | [], m, h => by simp [cellsD] at h; subst h; rfl
  | .d x :: r, m, h => by
    simp only [cellsD] at h
    cases hh : cellsD r with
    | none => simp [hh] at h
    | some k => simp [hh] at h; subst h; simp [cellsD_eq hh]
  | .p _ _ :: _, _, h => by simp [cellsD] at h
  | .ip _ :: _, _, h => by simp [cellsD] at h
  | .r _ :: _, _, h => by simp [cellsD] at h
  | .y _ _ :: _, _, h => by simp [cellsD] at h

theorem all2_d {Y : List Nat} {w : World} : ∀ {l : List Value} {m : List D}, All2 (Rcv Y w) l (m.map .d) → All2 (Rc Y w) l m
  | [], [], _ => trivial
  | _ :: _, _ :: _, ⟨h1, h2⟩ => ⟨h1, all2_d h2⟩
  | [], _ :: _, h2 => h2.elim
  | _ :: _, [], h2 => h2.elim
theorem all2_d' {Y : List Nat} {w : World} : ∀ {l : List Value} {m : List D}, All2 (Rc Y w) l m → All2 (Rcv Y w) l (m.map .d)
  | [], [], _ => trivial
  | _ :: _, _ :: _, ⟨h1, h2⟩ => ⟨h1, all2_d' h2⟩
  | [], _ :: _, h2 => h2.elim
  | _ :: _, [], h2 => h2.elim

def elsC (sz : Nat) : Nat → List (Nat × SV) → Option (List (List D))
  | _, [] => some []
  | k, (i, s) :: r => if Nat.beq i k then (match cellsD s.cells with
    | some e => if Nat.beq e.length sz then (match elsC sz (k + 1) r with
      | some es => some (e :: es)
      | none => none) else none
    | none => none) else none

theorem setsA_splice : ∀ (vs : List Value) (o k : Nat) (cs : Array Value), o + k + vs.length ≤ cs.size →
    ((vs.zipIdx k).foldl (fun cs (p : Value × Nat) => cs.setIfInBounds (o + p.2) p.1) cs).toList = cs.toList.take (o + k) ++ vs ++ cs.toList.drop (o + k + vs.length)
  | [], o, k, cs, _ => by simp
  | v :: vs, o, k, cs, h => by
    have hk : o + k < cs.size := by simp at h; omega
    simp only [List.zipIdx_cons, List.foldl_cons]
    rw [setsA_splice vs o (k + 1) _ (by simp at h ⊢; omega)]
    have e := list_seg_step cs.toList (o + k) v vs (by simp at h ⊢; omega)
    simpa [Array.toList_setIfInBounds, Nat.add_assoc] using e

theorem fill_seq {Y : List Nat} {w : World} {sz : Nat} (h0 : 0 < sz) : ∀ {ps : List (Nat × Value)} {xs : List (Nat × SV)}, All2 (fun (p : Nat × Value) (q : Nat × SV) => p.1 = q.1 ∧ Rsv Y w p.2 q.2) ps xs →
    ∀ {k : Nat} {es : List (List D)} {cs : Array Value}, elsC sz k xs = some es → (k + ps.length) * sz ≤ cs.size →
    ∃ us vs, Instr.fill (fun i => some (i * sz, sz)) cs ps = some us ∧ us.toList = cs.toList.take (k * sz) ++ vs ++ cs.toList.drop ((k + ps.length) * sz) ∧ All2 (Rc Y w) vs es.flatten ∧ (∀ e ∈ es, e.length = sz) ∧ es.length = ps.length
  | [], [], _, k, es, cs, h, hc => by
    simp [elsC] at h; subst h
    exact ⟨cs, [], rfl, by simp, trivial, by simp, rfl⟩
  | (i, v) :: ps, (j, s) :: xs, ⟨⟨hij, hr⟩, h2⟩, k, es, cs, h, hc => by
    have hij' : i = j := hij
    subst hij'
    have hr' : Rsv Y w v s := hr
    simp only [elsC] at h
    split at h
    · rename_i hb
      have hik : i = k := by simpa using hb
      subst hik
      cases hce : cellsD s.cells with
      | none => simp [hce] at h
      | some e =>
        simp only [hce] at h
        split at h
        · rename_i hb2
          have hel : e.length = sz := by simpa using hb2
          cases hee : elsC sz (i + 1) xs with
          | none => simp [hee] at h
          | some es' =>
            simp [hee] at h
            subst h
            have hcells := hr'.cells
            rw [cellsD_eq hce] at hcells
            have hvd := all2_d hcells
            have hvl : v.cells.toList.length = sz := by rw [hvd.length, hel]
            have hvs : v.cells.size = sz := by simpa using hvl
            have h5 : v.cells.zipIdx.foldl (fun cs (c, j) => cs.setIfInBounds (i * sz + j) c) cs = (v.cells.toList.zipIdx 0).foldl (fun cs (p : Value × Nat) => cs.setIfInBounds (i * sz + p.2) p.1) cs := by
              have := setsA_list v.cells.toList (i * sz) 0 cs
              simpa using this
            have hfit : i * sz + sz ≤ cs.size := by
              have : (i + 1) * sz ≤ (i + ((i, v) :: ps).length) * sz := Nat.mul_le_mul_right _ (by simp)
              rw [Nat.add_mul] at this
              omega
            have hsp := setsA_splice v.cells.toList (i * sz) 0 cs (by rw [hvl]; omega)
            generalize hcs' : (v.cells.toList.zipIdx 0).foldl (fun cs (p : Value × Nat) => cs.setIfInBounds (i * sz + p.2) p.1) cs = cs' at hsp h5
            have hsz' : cs'.size = cs.size := by
              have := congrArg List.length hsp
              simp [hvs] at this
              omega
            obtain ⟨us, vs, h6, h7, h8, h9, h10⟩ := fill_seq h0 h2 (k := i + 1) (es := es') (cs := cs') hee (by rw [hsz']; simp at hc ⊢; rw [show i + 1 + ps.length = i + (ps.length + 1) by omega]; exact hc)
            refine ⟨us, v.cells.toList ++ vs, ?_, ?_, hvd.append h8, ?_, by simp [h10]⟩
            · simp only [Instr.fill]
              rw [if_neg (by simp [hvs]; omega), h5]
              exact h6
            · rw [h7, hsp]
              have e1 : (i + 1) * sz = i * sz + sz := by rw [Nat.add_mul]; omega
              have hl1 : (cs.toList.take (i * sz)).length = i * sz := by simp; omega
              have t1 : (cs.toList.take (i * sz + 0) ++ v.cells.toList ++ cs.toList.drop (i * sz + 0 + v.cells.toList.length)).take ((i + 1) * sz) = cs.toList.take (i * sz) ++ v.cells.toList := by
                rw [List.take_append_of_le_length (by simp [hvs]; omega), List.take_of_length_le (by simp [hvs]; omega), Nat.add_zero]
              have t2 : (cs.toList.take (i * sz + 0) ++ v.cells.toList ++ cs.toList.drop (i * sz + 0 + v.cells.toList.length)).drop ((i + 1 + ps.length) * sz) = cs.toList.drop ((i + ((i, v) :: ps).length) * sz) := by
                have e2 : (i + 1 + ps.length) * sz = (i * sz + sz) + ps.length * sz := by rw [Nat.add_mul, e1]
                have hl2 : (cs.toList.take (i * sz + 0)).length = i * sz := hl1
                rw [List.drop_append, List.drop_eq_nil_of_le (by simp [hvs]; omega), List.nil_append, List.drop_drop]
                congr 1
                simp only [List.length_append, hl2, hvl, List.length_cons]
                rw [e2, show i + (ps.length + 1) = i + 1 + ps.length by omega, e2]
                omega
              rw [t1, t2]
              simp
            · intro e' he'
              rcases List.mem_cons.1 he' with rfl | he'
              · exact hel
              · exact h9 e' he'
        · simp at h
    · simp at h
  | [], _ :: _, h2, _, _, _, _, _ => h2.elim
  | _ :: _, [], h2, _, _, _, _, _ => h2.elim

section
variable {P : Program} {C : Ctx} {n : Nat} {ops : Array Oper} {Q : Pst} {rest : List Oper} {σ σ' : Env} {Ω Ω' A B : List Ob} {d : Nat} {ty : TypeId} {pos : String} {after : Array Edge}

theorem run_buildSlice {t e : TypeId} {ti : TypeInfo} {zv : Value} {ps : List (Nat × Operand)} {xs : List (Nat × SV)} {es : List (List D)} (hu : P.underlying t = some (.slice e)) (hi : P.info? e = some ti) (hz : ti.zero = some zv) (h0 : 0 < ti.size) (hsmall : ps.length * ti.size ≤ 16777216)
    {n : Nat} {ds : List Deferred} {Y : List Nat} {w : World} {a : Act} (ha : Has n ds Y w a σ) (hx : evP σ ps = some xs) (he : elsC ti.size 0 xs = some es) :
    ∃ us : List Value, (Instr.buildSlice t ps.length (ps.map fun p => (p.1, a.eval p.2)).toArray).run P w = .ok (.slice (some ⟨w.heap.size, 0, none⟩) ps.length ps.length) (w.alloc (.cells us.toArray e)) ∧ All2 (Rc Y w) us es.flatten ∧ (∀ e ∈ es, e.length = ti.size) ∧ es.length = ps.length ∧ us.length = ps.length * ti.size := by
  have hps := ha.parts hx
  have hpl : (ps.map fun p => (p.1, a.eval p.2)).length = ps.length := by simp
  let zero : Array Value := if ps.length * ti.size = 0 then #[] else zv.cells
  have hcs : ((Array.range (ps.length * ti.size)).map (zero[· % zero.size]!)).size = ps.length * ti.size := by simp
  obtain ⟨us, vs, h1, h2, h3, h4, h5⟩ := fill_seq h0 hps (k := 0) (cs := (Array.range (ps.length * ti.size)).map (zero[· % zero.size]!)) he (by rw [hcs, hpl, Nat.zero_add]; exact Nat.le_refl _)
  have h6 : us.toList = vs := by
    rw [h2, hpl, Nat.zero_mul, Nat.zero_add, List.take_zero, List.nil_append, List.drop_eq_nil_of_le (by rw [Array.length_toList, hcs]; exact Nat.le_refl _), List.append_nil]
  rw [hpl] at h5
  have hvl : vs.length = ps.length * ti.size := by rw [h3.length, flatten_len h4, h5]
  refine ⟨vs, ?_, h3, h4, h5, hvl⟩
  have h7 : us = vs.toArray := by rw [← h6]
  unfold Instr.buildSlice
  simp only [Sem.run_bind, run_underlying hu, Result.andThen_ok, sizeOf, typeInfo, run_program, hi, Sem.run_pure]
  have hne : ¬ (ps.length * ti.size > 2 ^ 24) := by
    have : (2 : Nat) ^ 24 = 16777216 := rfl
    omega
  rw [if_neg hne]
  by_cases hz0 : ps.length * ti.size = 0
  · rw [if_pos hz0]
    have hzz : zero = #[] := if_pos hz0
    rw [hzz] at h1
    simp only [Sem.run_bind, Sem.run_pure, Result.andThen_ok, h1, h7, newRow, run_newObj, World.alloc_eq]
  · rw [if_neg hz0]
    have hzz : zero = zv.cells := if_neg hz0
    rw [hzz] at h1
    simp only [Sem.run_bind, Sem.run_pure, Result.andThen_ok, zeroValue, typeInfo, run_program, hi, hz, h1, h7, newRow, run_newObj, World.alloc_eq]

/-- A slice written out, as data. -/
theorem L.bsD {t e : TypeId} {sz by_ : Nat} {zv : Value} {ps : List (Nat × Operand)} {xs : List (Nat × SV)} {es : List (List D)} {m : Nat} (hm : Nat.beq ps.length m = true) (hu : P.underlying t = some (.slice e)) (hinfo : (P.info? e).map (fun i => (i.zero, i.size, i.bytes)) = some (some zv, sz, by_)) (h0 : Nat.blt 0 sz = true) (hsmall : Nat.ble (ps.length * sz) 16777216 = true)
    (hx : evP σ ps = some xs) (he : elsC sz 0 xs = some es) (hdn : Nat.blt d n = true)
    (h : L P C n ops Q rest ((d, aL sz es) :: σ) Ω) : L P C n ops Q ({ dst := some d, op := .buildSlice t m ps.toArray, type := ty, pos, after, guard := none } :: rest) σ Ω := by
  obtain ⟨ti, hti, hz0, hz1, hz2⟩ := info_parts hinfo
  have hm' : ps.length = m := by simpa using hm
  subst hm'
  subst hz1
  refine L.any rfl rfl hdn fun a w hs ha => ?_
  obtain ⟨us, h1, h2, h3, h4, h5⟩ := run_buildSlice hu hti hz0 (by simpa using h0) (by simpa using hsmall) ha hx he
  obtain ⟨h6, h7⟩ := hs.more (w' := w.alloc (.cells us.toArray e)) (World.grownBy_alloc w _ none)
  have hsm : ps.length * ti.size ≤ 16777216 := by simpa using hsmall
  have hle : ps.length ≤ ps.length * ti.size := Nat.le_mul_of_pos_right _ (by simpa using h0)
  refine ⟨.slice (some ⟨w.heap.size, 0, none⟩) ps.length ps.length, w.alloc (.cells us.toArray e), aL ti.size es, Ω, ?_, ⟨h6, h7⟩, ?_, h⟩
  · have h8 : (ps.toArray.map fun (p : Nat × Operand) => (p.1, a.eval p.2)) = (ps.map fun p => (p.1, a.eval p.2)).toArray := by simp
    simp only [execOp, Sem.run_bind]
    rw [h8, h1]
    rfl
  · refine Rc.mk (heap_alloc_new w _) (us := us) ?_ h4 (Nat.le_refl _) (by simp only [maxLen]; omega) (fun hX => ?_) h3 (h2.mono fun _ _ => Rc.step h7)
    · simp [← h5]
    · rcases List.mem_append.1 hX with h8 | h8
      · have := hs.lt _ h8; omega
      · have := hs.xlt _ h8; have := hs.size; omega

/-- A slice written out, as an own row. -/
theorem L.bsR {t e : TypeId} {sz by_ : Nat} {zv : Value} {ps : List (Nat × Operand)} {xs : List (Nat × SV)} {es : List (List D)} {m : Nat} (hm : Nat.beq ps.length m = true) (hu : P.underlying t = some (.slice e)) (hinfo : (P.info? e).map (fun i => (i.zero, i.size, i.bytes)) = some (some zv, sz, by_)) (h0 : Nat.blt 0 sz = true) (hsmall : Nat.ble (ps.length * sz) 16777216 = true)
    (hx : evP σ ps = some xs) (he : elsC sz 0 xs = some es) (hdn : Nat.blt d n = true)
    (h : ∀ b, L P C n ops Q rest ((d, aR (.slice (some ⟨b, 0, none⟩) m m)) :: σ) (.row (.slice (some ⟨b, 0, none⟩) m m) e sz es :: Ω)) : L P C n ops Q ({ dst := some d, op := .buildSlice t m ps.toArray, type := ty, pos, after, guard := none } :: rest) σ Ω := by
  obtain ⟨ti, hti, hz0, hz1, hz2⟩ := info_parts hinfo
  have hm' : ps.length = m := by simpa using hm
  subst hm'
  subst hz1
  refine L.any rfl rfl hdn fun a w hs ha => ?_
  obtain ⟨us, h1, h2, h3, h4, h5⟩ := run_buildSlice hu hti hz0 (by simpa using h0) (by simpa using hsmall) ha hx he
  have hsm : ps.length * ti.size ≤ 16777216 := by simpa using hsmall
  have hle : ps.length ≤ ps.length * ti.size := Nat.le_mul_of_pos_right _ (by simpa using h0)
  have hnew := hs.newRow (w' := w.alloc (.cells us.toArray e)) (World.grownBy_alloc w _ none) (.slice (some ⟨w.heap.size, 0, none⟩) ps.length ps.length) e ti.size us es ⟨by rw [h5, h4], .inr ⟨w.heap.size, ps.length, us.toArray, by rw [h4], Nat.le_refl _, heap_alloc_new w _, by rw [h4]; exact Nat.le_refl _, by simp only [maxLen]; omega, by simpa using h5, by rw [h4, ← h5]; simp⟩⟩ h2 h3
  refine ⟨.slice (some ⟨w.heap.size, 0, none⟩) ps.length ps.length, w.alloc (.cells us.toArray e), aR _, _, ?_, hnew, ⟨rfl, rfl⟩, h _⟩
  have h8 : (ps.toArray.map fun (p : Nat × Operand) => (p.1, a.eval p.2)) = (ps.map fun p => (p.1, a.eval p.2)).toArray := by simp
  simp only [execOp, Sem.run_bind]
  rw [h8, h1]
  rfl

/-- make([]T, n): elements of one cell. -/
theorem L.mk {t e : TypeId} {by_ : Nat} {z : Value} {x y : Operand} {m : Nat} {zd : D} (hu : P.underlying t = some (.slice e)) (hinfo : (P.info? e).map (fun i => (i.zero, i.size, i.bytes)) = some (some z, 1, by_)) (hz1 : z.oneCell' = true) (hzd : kCV z = .d zd) (hx : ev σ x = some (aN (m : Int))) (hy : ev σ y = some (aN (m : Int))) (hb : by_ * m ≤ 281474976710656) (hm : m ≤ 9223372036854775807) (hdn : Nat.blt d n = true)
    (h : ∀ b, L P C n ops Q rest ((d, aR (.slice (some ⟨b, 0, none⟩) m m)) :: σ) (.row (.slice (some ⟨b, 0, none⟩) m m) e 1 (List.replicate m [zd]) :: Ω)) : L P C n ops Q ({ dst := some d, op := .makeSlice t x y, type := ty, pos, after, guard := none } :: rest) σ Ω := by
  obtain ⟨ti, hti, hz0, hz1', hz2⟩ := info_parts hinfo
  refine L.any rfl rfl hdn fun a w hs ha => ?_
  obtain ⟨w', h1, h2, h3⟩ := run_make_full (P := P) w w.heap.size t e ti z 1 hu hti hz0 hz1' .i64 .i64 m (by rw [hz2]; exact hb) (by simp only [maxLen]; omega) (Nat.le_refl _)
  have hcells := cells_one hz1
  rw [hcells, Nat.mul_one, toList_madeCells_one] at h2
  have hrel : ∀ k : Nat, All2 (Rc (owns Ω ++ C.X) w) (List.replicate k z) (List.replicate k [zd]).flatten := by
    intro k
    induction k with
    | zero => trivial
    | succ k ih =>
      refine ⟨?_, ih⟩
      have := kCV_ok (Y := owns Ω ++ C.X) (w := w) hz1
      rw [hzd] at this
      exact this
  have hnew := hs.newRow h3 (.slice (some ⟨w.heap.size, 0, none⟩) m m) e 1 (List.replicate m z) (List.replicate m [zd]) (by simpa using h2) (hrel m) (by intro e he; rw [List.eq_of_mem_replicate he]; rfl)
  refine ⟨_, _, aR _, _, ?_, hnew, ⟨rfl, rfl⟩, h _⟩
  simp [execOp, ha.int hx, ha.int hy, h1]

/-! ### Own rows -/

theorem L.lenR {t e T : TypeId} {x : Operand} {i sz : Nat} {v : Value} {es : List (List D)} (hu : P.underlying t = some (.slice e)) (hx : ev σ x = some (aR v)) (hi : Ω[i]? = some (.row v T sz es)) (hdn : Nat.blt d n = true) (h : es.length ≤ 9223372036854775807 → L P C n ops Q rest ((d, aN es.length) :: σ) Ω) :
    L P C n ops Q ({ dst := some d, op := .call { callee := .builtin .len, args := #[x], argTypes := #[t] }, type := ty, pos, after, guard := none } :: rest) σ Ω := by
  intro a w hs ha
  obtain ⟨us, hown, _, _⟩ := hs.obs _ (List.mem_of_getElem? hi)
  have hlen : ∃ A c, v = .slice A es.length c ∧ es.length ≤ maxLen := by
    rcases hown.2 with ⟨rfl, hn⟩ | ⟨g, cap, cur, rfl, _, _, h1, h2, _⟩
    · exact ⟨none, 0, by rw [hn], by rw [hn]; simp⟩
    · exact ⟨_, cap, rfl, Nat.le_trans h1 h2⟩
  obtain ⟨A, c, rfl, hm⟩ := hlen
  refine L.pure (x := aN es.length) rfl rfl hdn (fun a w hs ha => ?_) (h (by simpa [maxLen] using hm)) a w hs ha
  exact ⟨.int .i64 es.length, by simp [execOp, resolve, invoke, builtin, Builtin.len_, run_underlying hu, ha.raw hx, goInt], rI⟩

/-- &row[i]: elements of one cell. -/
theorem L.ixR {t e : TypeId} {x y : Operand} {g c m : Nat} {k : IntKind} {z : Int} (j : Nat) (hu : P.underlying t = some (.slice e)) (hsz : (P.info? e).map (·.size) = some 1) (hx : ev σ x = some (aR (.slice (some ⟨g, 0, none⟩) m c))) (hy : ev σ y = some (aI k z)) (hz : z = (j : Int)) (hj : j < m) (hdn : Nat.blt d n = true)
    (h : L P C n ops Q rest ((d, aP g j) :: σ) Ω) : L P C n ops Q ({ dst := some d, op := .indexAddr t x y, type := ty, pos, after, guard := none } :: rest) σ Ω := by
  obtain ⟨ti, hti, hs1⟩ := Option.map_eq_some_iff.1 hsz
  refine L.pure rfl rfl hdn (fun a w hs ha => ⟨.pointer (some ⟨g, j, none⟩), ?_, rP⟩) h
  subst hz
  simp [execOp, Instr.indexAt, ha.raw hx, ha.int hy, asIntOf, run_underlying hu, hj, sizeOf, typeInfo, hti, hs1, Addr.add_lit]

theorem L.ldR {t T : TypeId} {x : Operand} {g j i m c : Nat} {es : List (List D)} {y : D} (h1 : one P t = true) (hx : ev σ x = some (aP g j)) (hi : Ω[i]? = some (.row (.slice (some ⟨g, 0, none⟩) m c) T 1 es)) (hy : es[j]? = some [y]) (hdn : Nat.blt d n = true)
    (h : L P C n ops Q rest ((d, aD y) :: σ) Ω) : L P C n ops Q ({ dst := some d, op := .load t x, type := ty, pos, after, guard := none } :: rest) σ Ω := by
  refine L.pure rfl rfl hdn (fun a w hs ha => ?_) h
  obtain ⟨us, hown, hu, hl⟩ := hs.obs _ (List.mem_of_getElem? hi)
  have hf : es.flatten[j]? = some y := by
    have := flatten_get hl (i := j) (j := 0) (by omega)
    rw [Nat.mul_one, Nat.add_zero, hy] at this
    simpa using this
  obtain ⟨u, hu1, hu2⟩ := hu.get hf
  have hjl : j < es.length := (List.getElem?_eq_some_iff.1 hy).1
  rcases hown.2 with ⟨h', _⟩ | ⟨g', cap, cur, h', _, hg, _, _, _, htake⟩
  · simp at h'
  · simp only [Value.slice.injEq, Option.some.injEq, Addr.mk.injEq, and_true] at h'
    obtain ⟨rfl, _, rfl⟩ := h'
    have hcell : w.cell? ⟨g, j, none⟩ = some u := by
      rw [cell_of_row w g j cur T (0, 0) hg]
      rw [← htake, List.getElem?_take, if_pos (by omega)] at hu1
      simpa using hu1
    refine ⟨u, ?_, hu2⟩
    simp [execOp, Instr.loadAt, ha.ptr hx, Instr.sureAddr, loadVar, run_isAgg_one h1, hcell]

theorem flatten_one_set {α : Type} {x : α} : ∀ {es : List (List α)} {j : Nat}, (∀ e ∈ es, e.length = 1) → (es.set j [x]).flatten = es.flatten.set j x
  | [], j, _ => by simp
  | e :: es, 0, h => by
    have he := h e (by simp)
    match e, he with
    | [a], _ => simp
  | e :: es, j + 1, h => by
    have he := h e (by simp)
    have ih := flatten_one_set (x := x) (es := es) (j := j) (fun e' he' => h e' (List.mem_cons_of_mem _ he'))
    match e, he with
    | [a], _ => simp [ih]

theorem L.stR {t T : TypeId} {x y : Operand} {g j i m c : Nat} {es : List (List D)} {z : D} (hsz : (P.info? t).map (·.size) = some 1) (hx : ev σ x = some (aP g j)) (hy : ev σ y = some (aD z)) (hi : Ω[i]? = some (.row (.slice (some ⟨g, 0, none⟩) m c) T 1 es)) (hj : j < es.length) (hΩ : setL Ω i (.row (.slice (some ⟨g, 0, none⟩) m c) T 1 (es.set j [z])) = some Ω')
    (h : L P C n ops Q rest σ Ω') : L P C n ops Q ({ dst := none, op := .store t x y, type := ty, pos, after, guard := none } :: rest) σ Ω := by
  obtain ⟨A, B, rfl, rfl⟩ := setL_split hΩ hi
  obtain ⟨ti, hti, hs1⟩ := Option.map_eq_some_iff.1 hsz
  refine L.act rfl rfl (fun a w hs ha => ?_) h
  obtain ⟨us, hown, hu, hl⟩ := hs.obs _ (List.mem_of_getElem? hi)
  obtain ⟨v, hv, hr⟩ := ha.val hy
  have hr' : Rc (owns (A ++ .row (.slice (some ⟨g, 0, none⟩) m c) T 1 es :: B) ++ C.X) w v z := hr
  have hm : m = es.length := by
    rcases hown.2 with ⟨h', _⟩ | ⟨g', cap, cur, h', _⟩
    · simp at h'
    · simp at h'; exact h'.2.1
  subst hm
  obtain ⟨h2, h3⟩ := hown.stored j v
  have hset := hs.setRow (v' := .slice (some ⟨g, 0, none⟩) es.length c) (cs' := es.set j [z]) (us.set j v) h3 (.inl rfl) (by simpa using h2) (by rw [flatten_one_set hl]; exact hu.set hr' j) (fun e he => by
    rcases List.mem_or_eq_of_mem_set he with h4 | h4
    · exact hl e h4
    · rw [h4]; rfl)
  refine ⟨_, ?_, hset⟩
  have hlt : j < us.length := by rw [hown.1]; omega
  have hcell : w.cell? ⟨g, j, none⟩ = some us[j] := by
    rw [hown.cellAt j (by omega)]; simp [hlt]
  have hfro := hown.frozenAt j
  simp [execOp, Instr.storeAt, ha.ptr hx, hv, Instr.sureAddr, storeVar, cells_one hr'.one, sizeOf, typeInfo, hti, hs1, storeCells, run_store P w _ v _ hr'.one, hcell, hfro, Addr.add_zero']

/-! ### Closures -/
def rawP : AV → Option Value
  | .v (.c (.p b o)) => some (.pointer (some ⟨b, o, none⟩))
  | .v (.c (.r v)) => some v
  | _ => none
def raws (σ : Env) : List Operand → Option (List Value)
  | [] => some []
  | x :: xs => match ev σ x with
    | some y => match rawP y, raws σ xs with
      | some v, some r => some (v :: r)
      | _, _ => none
    | none => none

theorem Has.raws_eq {n : Nat} {ds : List Deferred} {Y : List Nat} {w : World} {a : Act} {σ : Env} (ha : Has n ds Y w a σ) : ∀ {xs : List Operand} {vs : List Value}, raws σ xs = some vs → xs.map a.eval = vs
  | [], vs, h => by simp [raws] at h; subst h; rfl
  | x :: xs, vs, h => by
    simp only [raws] at h
    cases h1 : ev σ x with
    | none => simp [h1] at h
    | some y =>
      cases h2 : rawP y with
      | none => simp [h1, h2] at h
      | some v =>
        cases h3 : raws σ xs with
        | none => simp [h1, h2, h3] at h
        | some r =>
          simp [h1, h2, h3] at h
          subst h
          simp only [List.map_cons, ha.raws_eq h3, List.cons.injEq, and_true]
          obtain ⟨u, hu, hr⟩ := ha.val h1
          unfold rawP at h2
          split at h2
          · simp at h2; subst h2; rw [hu]; exact hr
          · simp at h2; subst h2; rw [hu]; exact hr.1
          · simp at h2

theorem rR {Y : List Nat} {w : World} {u : Value} (h : u.oneCell' = true) : Rav Y w u (aR u) := ⟨rfl, h⟩

theorem L.mf {f : FuncId} {xs : List Operand} {vs : List Value} (hx : raws σ xs = some vs) (hdn : Nat.blt d n = true) (h : L P C n ops Q rest ((d, aR (.func (.func f) #[] vs.toArray)) :: σ) Ω) :
    L P C n ops Q ({ dst := some d, op := .makeFunc (.func f) #[] xs.toArray, type := ty, pos, after, guard := none } :: rest) σ Ω :=
  L.pure rfl rfl hdn (fun a _ _ ha => ⟨.func (.func f) #[] vs.toArray, by simp [execOp, Instr.makeFunc, ha.raws_eq hx], rR rfl⟩) h

/-- A result that lies in an own block. -/
theorem resC {fn : Func} {t : Nat} {T T' : TypeId} {b i sz : Nat} {cs : List CV} (hr : fn.results = #[.cell t T]) (ht : σ.lookup t = some (aP b 0)) (h1 : agg P T = true) (hsz : (P.info? T).map (·.size) = some sz) (hi : Ω[i]? = some (.blk b T' cs)) (hl : Nat.beq cs.length sz = true) :
    ∀ a w, St C Ω w → Has n C.ds (owns Ω ++ C.X) w a σ → ∃ v, (results fn a.tmps).run P w = .ok v w ∧ Rav (owns Ω ++ C.X) w v (.v (.g cs)) := by
  intro a w hs ha
  obtain ⟨v, hv, hr'⟩ := ha.get t _ ht
  have hv' : v = .pointer (some ⟨b, 0, none⟩) := hr'
  subst hv'
  obtain ⟨us, hb, hc⟩ := hs.blk hi
  have hl' : cs.length = sz := by simpa using hl
  have hrun := run_loadVar_agg (P := P) (w := w) (b := b) (o := 0) (us := us) h1 hsz (by rw [hc.length, hl']) (fun j u hu => by
    rw [Nat.zero_add, cell_of_row w b j us.toArray T' (0, 0) hb]; simpa using hu)
  exact ⟨.agg us.toArray, by simp [results, hr, hv, asAddr, hrun], us, rfl, hc⟩

end
end Go.Q
