/- Operations that make memory or write to what is owned; calls. Structs and slices written out; append; make; rows. -/
import Derived.Test.YtimimkdgofiloaaGreatDoorQc
namespace Go.Q
open Go

/-- In one own block something has changed. -/
theorem St.set {C : Ctx} {A B : List Ob} {b : Nat} {T : TypeId} {cs cs' : List CV} {w w' : World} (h : St C (A ++ .blk b T cs :: B) w) (us : List Value)
    (hos : w'.os = w.os) (htape : w'.tape = w.tape) (hout : w'.output = w.output) (hsize : w'.heap.size = w.heap.size) (hsame : ∀ r, r ≠ b → w'.heap[r]? = w.heap[r]?)
    (hb : w'.heap[b]? = some (.cells us.toArray T (0, 0))) (hc : All2 (Rcv (owns (A ++ .blk b T cs :: B) ++ C.X) w) us cs') :
    St C (A ++ .blk b T cs' :: B) w' ∧ Step (owns (A ++ .blk b T cs :: B) ++ C.X) (owns (A ++ .blk b T cs' :: B) ++ C.X) w w' := by
  have ho : owns (A ++ .blk b T cs' :: B) = owns (A ++ .blk b T cs :: B) := by simp [owns, Ob.own]
  have hmem : b ∈ owns (A ++ .blk b T cs :: B) := by simp [owns, Ob.own]
  refine h.go [b] hos htape hout (by omega) (fun r _ hr => hsame r (by simpa using hr)) (by simpa using hmem) (by rw [ho]; exact h.nodup) (fun r hr => .inl (by rw [ho] at hr; exact hr)) ?_
  intro s o hO
  rw [ho] at s ⊢
  have hnd := h.nodup
  rw [owns_append, owns_cons] at hnd
  have hother : ∀ o ∈ A ++ B, b ∉ o.own := by
    intro o ho hbo
    rw [List.nodup_append] at hnd
    obtain ⟨_, h2, h3⟩ := hnd
    rw [List.nodup_append] at h2
    rcases List.mem_append.1 ho with h4 | h4
    · exact h3 b (List.mem_flatMap.2 ⟨o, h4, hbo⟩) b (List.mem_append_left _ (by simp [Ob.own])) rfl
    · exact h2.2.2 b (by simp [Ob.own]) b (List.mem_flatMap.2 ⟨o, h4, hbo⟩) rfl
  have hcase : o = .blk b T cs' ∨ o ∈ A ++ B := by
    rcases List.mem_append.1 hO with h4 | h4
    · exact .inr (List.mem_append_left _ h4)
    · rcases List.mem_cons.1 h4 with h5 | h5
      · exact .inl h5
      · exact .inr (List.mem_append_right _ h5)
  rcases hcase with rfl | hin
  · exact ⟨us, hb, hc.mono fun _ _ => Rcv.step s⟩
  · have hold : o ∈ A ++ .blk b T cs :: B := by
      rcases List.mem_append.1 hin with h4 | h4
      · exact List.mem_append_left _ h4
      · exact List.mem_append_right _ (List.mem_cons_of_mem _ h4)
    exact Rob.step s (fun r hr => hsame r (fun e => hother o hin (e ▸ hr))) (h.obs o hold)

/-- In an own row something has changed; it may have moved. -/
theorem St.setRow {C : Ctx} {A B : List Ob} {v v' : Value} {T : TypeId} {sz : Nat} {cs cs' : List (List D)} {w w' : World} (h : St C (A ++ .row v T sz cs :: B) w) (us : List Value)
    (hg : w.grownBy w' v.ownBlock) (hv : v'.ownBlock = v.ownBlock ∨ ∀ g, v'.ownBlock = some g → w.heap.size ≤ g)
    (hb : w'.ownsRow 0 T sz v' cs'.length us) (hc : All2 (Rc (owns (A ++ .row v T sz cs :: B) ++ C.X) w) us cs'.flatten) (hl : ∀ e ∈ cs', e.length = sz) :
    St C (A ++ .row v' T sz cs' :: B) w' ∧ Step (owns (A ++ .row v T sz cs :: B) ++ C.X) (owns (A ++ .row v' T sz cs' :: B) ++ C.X) w w' := by
  have hnd := h.nodup
  have hlt := h.lt
  have hmine : ∀ g, v'.ownBlock = some g → g ∈ owns (A ++ .row v T sz cs :: B) ∨ w.heap.size ≤ g := by
    intro g hgv
    rcases hv with h1 | h1
    · left
      rw [h1] at hgv
      simp [owns, Ob.own, hgv]
    · exact .inr (h1 g hgv)
  have hAB : ∀ r, r ∈ owns A ∨ r ∈ owns B → r ∈ owns (A ++ .row v T sz cs :: B) := by
    intro r hr
    rw [owns_append, owns_cons]
    rcases hr with h1 | h1
    · exact List.mem_append_left _ h1
    · exact List.mem_append_right _ (List.mem_append_right _ h1)
  have hbl : ∀ g, v'.ownBlock = some g → g < w'.heap.size := fun g hgv => (hb.lt g hgv).2
  rw [owns_append, owns_cons, List.nodup_append, List.nodup_append] at hnd
  obtain ⟨nA, ⟨_, nB, hvB⟩, hA⟩ := hnd
  have hvA : ∀ g, v'.ownBlock = some g → g ∉ owns A ∧ g ∉ owns B := by
    intro g hgv
    rcases hv with h1 | h1
    · rw [h1] at hgv
      exact ⟨fun hm => hA g hm g (List.mem_append_left _ (by simp [Ob.own, hgv])) rfl, fun hm => hvB g (by simp [Ob.own, hgv]) g hm rfl⟩
    · have := h1 g hgv
      exact ⟨fun hm => by have := hlt g (hAB g (.inl hm)); omega, fun hm => by have := hlt g (hAB g (.inr hm)); omega⟩
  refine h.go v.ownBlock.toList hg.os hg.tape hg.output hg.size (fun r hr hm => hg.block r hr (fun e => hm (by simp [← e]))) (fun r hr => by
    rw [owns_append, owns_cons]
    exact List.mem_append_right _ (List.mem_append_left _ (by simpa [Ob.own] using hr))) ?_ ?_ ?_
  · rw [owns_append, owns_cons, List.nodup_append, List.nodup_append]
    refine ⟨nA, ⟨?_, nB, ?_⟩, ?_⟩
    · cases hx : v'.ownBlock <;> simp [Ob.own, hx]
    · intro a ha b hb' e
      subst e
      exact (hvA a (by simpa [Ob.own] using ha)).2 hb'
    · intro a ha b hb' e
      subst e
      rcases List.mem_append.1 hb' with h1 | h1
      · exact (hvA a (by simpa [Ob.own] using h1)).1 ha
      · exact hA a ha a (List.mem_append_right _ h1) rfl
  · intro b hb'
    rw [owns_append, owns_cons] at hb'
    rcases List.mem_append.1 hb' with h1 | h1
    · exact .inl (hAB b (.inl h1))
    · rcases List.mem_append.1 h1 with h2 | h2
      · have h3 : v'.ownBlock = some b := by simpa [Ob.own] using h2
        rcases hmine b h3 with h4 | h4
        · exact .inl h4
        · exact .inr ⟨h4, hbl b h3⟩
      · exact .inl (hAB b (.inr h2))
  · intro s o hO
    have hcase : o = .row v' T sz cs' ∨ o ∈ A ∨ o ∈ B := by
      rcases List.mem_append.1 hO with h4 | h4
      · exact .inr (.inl h4)
      · rcases List.mem_cons.1 h4 with h5 | h5
        · exact .inl h5
        · exact .inr (.inr h5)
    have hkeep : ∀ o, (o ∈ A ∨ o ∈ B) → ∀ r ∈ o.own, w'.heap[r]? = w.heap[r]? := by
      intro o ho r hr
      have hrm : r ∈ owns A ∨ r ∈ owns B := ho.imp (fun h1 => List.mem_flatMap.2 ⟨o, h1, hr⟩) (fun h1 => List.mem_flatMap.2 ⟨o, h1, hr⟩)
      refine hg.block r (hlt r (hAB r hrm)) (fun e => ?_)
      have he : r ∈ (Ob.row v T sz cs).own := by simp [Ob.own, ← e]
      rcases hrm with h1 | h1
      · exact hA r h1 r (List.mem_append_left _ he) rfl
      · exact hvB r he r h1 rfl
    rcases hcase with rfl | hin
    · exact ⟨us, hb, hc.mono fun _ _ => Rc.step s, hl⟩
    · have hold : o ∈ A ++ .row v T sz cs :: B := by
        rcases hin with h4 | h4
        · exact List.mem_append_left _ h4
        · exact List.mem_append_right _ (List.mem_cons_of_mem _ h4)
      exact Rob.step s (hkeep o hin) (h.obs o hold)

/-- A new row. -/
theorem St.newRow {C : Ctx} {Ω : List Ob} {w w' : World} (h : St C Ω w) (hg : w.grownBy w' none) (v : Value) (T : TypeId) (sz : Nat) (us : List Value) (cs : List (List D)) (hb : w'.ownsRow w.heap.size T sz v cs.length us)
    (hc : All2 (Rc (owns Ω ++ C.X) w) us cs.flatten) (hl : ∀ e ∈ cs, e.length = sz) : St C (.row v T sz cs :: Ω) w' ∧ Step (owns Ω ++ C.X) (owns (.row v T sz cs :: Ω) ++ C.X) w w' := by
  have hv : ∀ g, v.ownBlock = some g → w.heap.size ≤ g ∧ g < w'.heap.size := fun g hgv => hb.lt g hgv
  have hb0 : w'.ownsRow 0 T sz v cs.length us := ⟨hb.1, hb.2.imp id fun ⟨g, cap, cur, h1, _, h3⟩ => ⟨g, cap, cur, h1, Nat.zero_le _, h3⟩⟩
  refine h.go [] hg.os hg.tape hg.output hg.size (fun r hr _ => hg.block r hr (by simp)) (by simp) ?_ ?_ ?_
  · rw [owns_cons, List.nodup_append]
    refine ⟨by cases hx : v.ownBlock <;> simp [Ob.own, hx], h.nodup, fun a ha b hb' e => ?_⟩
    subst e
    have h1 := hv a (by simpa [Ob.own] using ha)
    have h2 := h.lt a hb'
    omega
  · intro b hb'
    rw [owns_cons] at hb'
    rcases List.mem_append.1 hb' with h1 | h1
    · exact .inr (hv b (by simpa [Ob.own] using h1))
    · exact .inl h1
  · intro s o hO
    rcases List.mem_cons.1 hO with rfl | hO
    · exact ⟨us, hb0, hc.mono fun _ _ => Rc.step s, hl⟩
    · exact Rob.step s (fun b hb' => hg.block b (h.lt b (List.mem_flatMap.2 ⟨o, hO, hb'⟩)) (by simp)) (h.obs o hO)

/-- What is owned may be given up (it stays as it is). -/
theorem St.drop {C : Ctx} {A B : List Ob} {o : Ob} {w : World} (h : St C (A ++ o :: B) w) : St C (A ++ B) w ∧ Step (owns (A ++ o :: B) ++ C.X) (owns (A ++ B) ++ C.X) w w := by
  have hsub : ∀ b, b ∈ owns (A ++ B) → b ∈ owns (A ++ o :: B) := by
    intro b hb
    rw [owns_append] at hb
    rw [owns_append, owns_cons]
    rcases List.mem_append.1 hb with h1 | h1
    · exact List.mem_append_left _ h1
    · exact List.mem_append_right _ (List.mem_append_right _ h1)
  refine h.go [] rfl rfl rfl (Nat.le_refl _) (fun _ _ _ => rfl) (by simp) ?_ (fun b hb => .inl (hsub b hb)) ?_
  · have hnd := h.nodup
    rw [owns_append, owns_cons, List.nodup_append, List.nodup_append] at hnd
    obtain ⟨nA, ⟨_, nB, _⟩, hA⟩ := hnd
    rw [owns_append, List.nodup_append]
    exact ⟨nA, nB, fun a ha b hb => hA a ha b (List.mem_append_right _ hb)⟩
  · intro s o' ho'
    refine Rob.step s (fun _ _ => rfl) (h.obs o' ?_)
    rcases List.mem_append.1 ho' with h1 | h1
    · exact List.mem_append_left _ h1
    · exact List.mem_append_right _ (List.mem_cons_of_mem _ h1)

/-- Another order of what is owned. -/
theorem St.perm {C : Ctx} {Ω Ω' : List Ob} {w : World} (h : St C Ω w) (hp : Ω.Perm Ω') : St C Ω' w ∧ Step (owns Ω ++ C.X) (owns Ω' ++ C.X) w w := by
  have hpo : (owns Ω).Perm (owns Ω') := hp.flatMap_right Ob.own
  exact h.go [] rfl rfl rfl (Nat.le_refl _) (fun _ _ _ => rfl) (by simp) (hpo.nodup_iff.1 h.nodup) (fun b hb => .inl (hpo.mem_iff.2 hb)) fun s o ho => Rob.step s (fun _ _ => rfl) (h.obs o (hp.mem_iff.2 ho))

section
variable {P : Program} {C : Ctx} {n : Nat} {ops : Array Oper} {Q : Pst} {rest : List Oper} {σ σ' : Env} {Ω Ω' A B : List Ob} {d : Nat} {ty : TypeId} {pos : String} {after : Array Edge}

theorem L.conv {Ω' : List Ob} (hh : ∀ w, St C Ω w → St C Ω' w ∧ Step (owns Ω ++ C.X) (owns Ω' ++ C.X) w w) (h : L P C n ops Q rest σ Ω') : L P C n ops Q rest σ Ω :=
  fun a w hs ha => let ⟨h1, h2⟩ := hh w hs; h a w h1 (ha.step h2)
theorem T.conv {c : Code} {Ω' : List Ob} (hh : ∀ w, St C Ω w → St C Ω' w ∧ Step (owns Ω ++ C.X) (owns Ω' ++ C.X) w w) (h : T P C n Q c σ Ω') : T P C n Q c σ Ω :=
  fun a w hs ha => let ⟨h1, h2⟩ := hh w hs; h a w h1 (ha.step h2)
theorem G.conv {K : Act → World → Prop} {Ω' : List Ob} (hh : ∀ w, St C Ω w → St C Ω' w ∧ Step (owns Ω ++ C.X) (owns Ω' ++ C.X) w w) (h : G C n K σ Ω') : G C n K σ Ω :=
  fun a w hs ha => let ⟨h1, h2⟩ := hh w hs; h a w h1 (ha.step h2)

/-- A slot holds what is weaker, too. -/
theorem Has.weak {n : Nat} {ds : List Deferred} {Y : List Nat} {w : World} {a : Act} {σ : Env} (ha : Has n ds Y w a σ) {d : Nat} {x y : AV} (hx : σ.lookup d = some x) (hxy : ∀ v, Rav Y w v x → Rav Y w v y) : Has n ds Y w a ((d, y) :: σ) := by
  refine ⟨ha.size, ha.defers, fun d' z hz => ?_⟩
  by_cases he : d' = d
  · subst he
    simp [List.lookup] at hz
    subst hz
    obtain ⟨v, h1, h2⟩ := ha.get d' x hx
    exact ⟨v, h1, hxy v h2⟩
  · have hb : (d' == d) = false := by simpa using he
    simp only [List.lookup, hb] at hz
    exact ha.get d' z hz

/-! ### New blocks -/

theorem run_newVar {T : TypeId} {v : Value} (w : World) : (newVar T v).run P w = .ok ⟨w.heap.size, 0, none⟩ (w.alloc (.cells v.cells T)) := rfl

/-- An operation that yields a value; what is left hangs on the world. -/
theorem L.any {o : Oper} (hg : plainOp o = true) (hd : o.dst = some d) (hdn : Nat.blt d n = true)
    (run : ∀ a w, St C Ω w → Has n C.ds (owns Ω ++ C.X) w a σ → ∃ v w' x Ω', (execOp a.eval o).run P w = .ok (.value v) w' ∧ (St C Ω' w' ∧ Step (owns Ω ++ C.X) (owns Ω' ++ C.X) w w') ∧ Rav (owns Ω' ++ C.X) w' v x ∧
      L P C n ops Q rest ((d, x) :: σ) Ω') : L P C n ops Q (o :: rest) σ Ω := by
  intro a w hs ha
  obtain ⟨v, w', x, Ω', hr, ⟨hs', st⟩, hv, hL⟩ := run a w hs ha
  refine wpListIn_plain (plainOp_guard hg) fun K hK => ⟨Ctx.about, ?_⟩
  rw [plainOp_sem hg, hr, Oper.uponIn_value, hd]
  exact hK _ _ (hL _ _ hs' ((ha.step st).put (bltLt hdn) hv))

/-- A new variable, zero. -/
theorem L.alloc {T : TypeId} {zv : Value} (hz : (P.info? T).bind (·.zero) = some zv) (hk : okConst zv = true) (hdn : Nat.blt d n = true)
    (h : ∀ b, L P C n ops Q rest ((d, aP b 0) :: σ) (.blk b T (zv.cells.toList.map kCV) :: Ω)) : L P C n ops Q ({ dst := some d, op := .alloc T, type := ty, pos, after, guard := none } :: rest) σ Ω := by
  obtain ⟨ti, hti, hzv⟩ := Option.bind_eq_some_iff.1 hz
  have hone : zv.cells.toList.all Value.oneCell' = true := by
    cases zv <;> first | (simp [okConst] at hk; done) | rfl | exact hk
  refine L.any rfl rfl hdn fun a w hs ha => ⟨.pointer (some ⟨w.heap.size, 0, none⟩), _, aP w.heap.size 0, _, ?_, hs.alloc T zv.cells.toList (zv.cells.toList.map kCV) (all2_k hone), rP, h _⟩
  simp [execOp, Instr.alloc, zeroValue, typeInfo, hti, hzv, newVar, newRow]

/-- A new variable that holds a value. -/
theorem L.box {T : TypeId} {x : Operand} {y : SV} (hx : ev σ x = some (.v y)) (hdn : Nat.blt d n = true)
    (h : ∀ b, L P C n ops Q rest ((d, aP b 0) :: σ) (.blk b T y.cells :: Ω)) : L P C n ops Q ({ dst := some d, op := .box T x, type := ty, pos, after, guard := none } :: rest) σ Ω := by
  refine L.any rfl rfl hdn fun a w hs ha => ?_
  obtain ⟨v, hv, hr⟩ := ha.val hx
  refine ⟨.pointer (some ⟨w.heap.size, 0, none⟩), _, aP w.heap.size 0, _, ?_, hs.alloc T v.cells.toList y.cells hr.cells, rP, h _⟩
  simp [execOp, Instr.box, hv, newVar, newRow]

/-! ### Stores -/

/-- An element replaced. -/
inductive SetAt {α : Type} : List α → Nat → α → List α → Prop where
  | z (a x : α) (l : List α) : SetAt (a :: l) 0 x (x :: l)
  | s {l l' : List α} {i : Nat} {x : α} (a : α) (h : SetAt l i x l') : SetAt (a :: l) (i + 1) x (a :: l')

theorem SetAt.eq {α : Type} {l l' : List α} {i : Nat} {x : α} (h : SetAt l i x l') : l' = l.set i x ∧ i < l.length := by
  induction h with
  | z a x l => exact ⟨rfl, by simp⟩
  | s a h ih => exact ⟨by simp [ih.1], by simp [ih.2]⟩

theorem SetAt.split {α : Type} {l l' : List α} {i : Nat} {x y : α} (h : SetAt l i x l') (hy : l[i]? = some y) : ∃ A B, l = A ++ y :: B ∧ l' = A ++ x :: B := by
  induction h with
  | z a x l => simp at hy; subst hy; exact ⟨[], l, rfl, rfl⟩
  | s a h ih =>
    obtain ⟨A, B, h1, h2⟩ := ih (by simpa using hy)
    exact ⟨a :: A, B, by simp [h1], by simp [h2]⟩

theorem L.st {t : TypeId} {x y : Operand} {b o i : Nat} {T : TypeId} {cs cs' : List CV} {z : CV} {Ω' : List Ob} (hsz : (P.info? t).map (·.size) = some 1) (hx : ev σ x = some (aP b o)) (hy : ev σ y = some (.v (.c z))) (hi : Ω[i]? = some (.blk b T cs)) (hc : SetAt cs o z cs') (hΩ : SetAt Ω i (.blk b T cs') Ω')
    (h : L P C n ops Q rest σ Ω') : L P C n ops Q ({ dst := none, op := .store t x y, type := ty, pos, after, guard := none } :: rest) σ Ω := by
  obtain ⟨A, B, rfl, rfl⟩ := hΩ.split hi
  obtain ⟨rfl, hlt⟩ := hc.eq
  refine L.act rfl rfl (fun a w hs ha => ?_) h
  obtain ⟨us, hb, hu⟩ := hs.blk hi
  obtain ⟨v, hv, hr⟩ := ha.val hy
  have hr' : Rcv (owns (A ++ .blk b T cs :: B) ++ C.X) w v z := hr
  obtain ⟨ti, hti, hs1⟩ := Option.map_eq_some_iff.1 hsz
  have hlen := hu.length
  have hcell : w.cell? ⟨b, o, none⟩ = some (us[o]'(by omega)) := by rw [cell_of_row w b o us.toArray T (0, 0) hb]; simp [hlen, hlt]
  have hst := run_storeCells_at P b o T [v] 0 us.toArray w hb (by simp; omega) (by simpa using hr'.one)
  have hrow := setRow_heap w b us.toArray (us.set o v).toArray T (0, 0) hb
  obtain ⟨h1, h2⟩ := hs.set (w' := w.setRow b (us.set o v).toArray) (us.set o v) rfl rfl rfl (by simp) (fun r hr => setRow_other w b r _ hr) hrow (hu.set hr' o)
  refine ⟨_, ?_, h1, h2⟩
  have he : us.take o ++ v :: us.drop (o + 1) = us.set o v := by
    rw [List.set_eq_take_append_cons_drop, if_pos (by omega)]
  simp only [Nat.add_zero, List.length_singleton, List.append_assoc, List.singleton_append, he] at hst
  simp [execOp, Instr.storeAt, ha.ptr hx, hv, Instr.sureAddr, storeVar, cells_one hr'.one, sizeOf, typeInfo, hti, hs1, hst]

/-- A store over the whole of an own block. -/
theorem L.stg {t : TypeId} {x y : Operand} {b i : Nat} {T : TypeId} {cs cs' : List CV} {Ω' : List Ob} (hsz : (P.info? t).map (·.size) = some cs.length) (hx : ev σ x = some (aP b 0)) (hy : ev σ y = some (.v (.g cs'))) (hi : Ω[i]? = some (.blk b T cs)) (hl : cs'.length = cs.length) (hΩ : SetAt Ω i (.blk b T cs') Ω')
    (h : L P C n ops Q rest σ Ω') : L P C n ops Q ({ dst := none, op := .store t x y, type := ty, pos, after, guard := none } :: rest) σ Ω := by
  obtain ⟨A, B, rfl, rfl⟩ := hΩ.split hi
  refine L.act rfl rfl (fun a w hs ha => ?_) h
  obtain ⟨us, hb, hu⟩ := hs.blk hi
  obtain ⟨v, hv, vs, rfl, hr⟩ := ha.val hy
  obtain ⟨ti, hti, hs1⟩ := Option.map_eq_some_iff.1 hsz
  have hlen := hu.length
  have hlen2 := hr.length
  have hone : ∀ u ∈ vs, u.oneCell' = true := by
    intro u hu
    obtain ⟨j, hj⟩ := List.getElem?_of_mem hu
    obtain ⟨c, _, hc⟩ := hr.getl hj
    exact hc.one
  have hst := run_storeCells_at P b 0 T vs 0 us.toArray w hb (by simp; omega) hone
  have hrow := setRow_heap w b us.toArray vs.toArray T (0, 0) hb
  obtain ⟨h1, h2⟩ := hs.set (w' := w.setRow b vs.toArray) vs rfl rfl rfl (by simp) (fun r hr => setRow_other w b r _ hr) hrow hr
  refine ⟨_, ?_, h1, h2⟩
  have he : us.drop vs.length = [] := List.drop_eq_nil_of_le (by omega)
  simp only [Nat.add_zero, Nat.zero_add, List.take_zero, List.nil_append, he, List.append_nil] at hst
  have hsz' : vs.length = ti.size := by omega
  simp [execOp, Instr.storeAt, ha.ptr hx, hv, Instr.sureAddr, storeVar, Value.cells, sizeOf, typeInfo, hti, hsz', hst]

/-! ### Calls -/

def evS (σ : Env) (x : Operand) : Option SV :=
  match ev σ x with
  | some (.v s) => some s
  | _ => none

def evs (σ : Env) : List Operand → Option (List SV)
  | [] => some []
  | x :: xs => match evS σ x, evs σ xs with
    | some s, some r => some (s :: r)
    | _, _ => none

theorem Has.vals {n : Nat} {ds : List Deferred} {Y : List Nat} {w : World} {a : Act} {σ : Env} (ha : Has n ds Y w a σ) : ∀ {xs : List Operand} {as : List SV}, evs σ xs = some as → All2 (Rsv Y w) (xs.map a.eval) as
  | [], as, h => by simp [evs] at h; subst h; trivial
  | x :: xs, as, h => by
    simp only [evs] at h
    cases h1 : evS σ x with
    | none => simp [h1] at h
    | some s =>
      cases h2 : evs σ xs with
      | none => simp [h1, h2] at h
      | some r =>
        simp [h1, h2] at h
        subst h
        refine ⟨?_, ha.vals h2⟩
        unfold evS at h1
        cases h3 : ev σ x with
        | none => simp [h3] at h1
        | some y =>
          cases y <;> simp [h3] at h1
          subst h1
          obtain ⟨v, hv, hr⟩ := ha.val h3
          show Rsv Y w (a.eval x) _
          rw [hv]; exact hr

/-- A function that is entered when it is called. -/
def enters (P : Program) (f : FuncId) : Bool :=
  match P.funcs[f]? with
  | some fn => fn.body.isSome && !(fn.name == "runtime.NumGoroutine")
  | none => false

theorem run_callFunc {f : FuncId} (hf : enters P f = true) (args : Array Value) (w : World) : (callFunc f args).run P w = .ok (.enter f args) w := by
  unfold enters at hf
  cases h : P.funcs[f]? with
  | none => simp [h] at hf
  | some fn =>
    simp only [h, Bool.and_eq_true, Bool.not_eq_true'] at hf
    obtain ⟨h1, h2⟩ := hf
    have h3 : fn.body ≠ none := by intro hb; simp [hb] at h1
    have h4 : fn.name ≠ "runtime.NumGoroutine" := by simpa using h2
    simp [callFunc, h, h3, h4]

theorem calls_round {f : FuncId} {args : Array Value} {w : World} {R : Ending → World → Prop} (h : Calls P f args w R) : CallsIn C.F 0 P f args w R :=
  show CallsIn Fence.wide 0 P f args w R from callsIn_wide.2 h

/-- A part of what is owned, by itself. -/
theorem frame_in {A Ω1 B : List Ob} {w : World} (hs : St C (A ++ Ω1 ++ B) w) :
    St ⟨owns A ++ owns B ++ C.X, owns Ω1, w, none, []⟩ Ω1 w ∧ Step (owns (A ++ Ω1 ++ B) ++ C.X) (owns Ω1 ++ (owns A ++ owns B ++ C.X)) w w := by
  have hown : ∀ b, b ∈ owns (A ++ Ω1 ++ B) ↔ b ∈ owns A ∨ b ∈ owns Ω1 ∨ b ∈ owns B := by
    intro b; simp only [owns_append, List.mem_append, or_assoc]
  have hnd := hs.nodup
  rw [owns_append, owns_append, List.append_assoc, List.nodup_append, List.nodup_append] at hnd
  obtain ⟨nA, ⟨n1, nB, h1B⟩, hA1B⟩ := hnd
  have hX : Step (owns (A ++ Ω1 ++ B) ++ C.X) (owns Ω1 ++ (owns A ++ owns B ++ C.X)) w w := ⟨Nat.le_refl _, fun _ _ _ => rfl, fun r _ hn hm => hn (by
    rcases List.mem_append.1 hm with h1 | h1
    · exact List.mem_append_left _ ((hown r).2 (.inr (.inl h1)))
    · rcases List.mem_append.1 h1 with h2 | h2
      · rcases List.mem_append.1 h2 with h3 | h3
        · exact List.mem_append_left _ ((hown r).2 (.inl h3))
        · exact List.mem_append_left _ ((hown r).2 (.inr (.inr h3)))
      · exact List.mem_append_right _ h2)⟩
  refine ⟨⟨rfl, rfl, rfl, Nat.le_refl _, fun _ _ _ => rfl, n1, fun b hb => hs.lt b ((hown b).2 (.inr (.inl hb))), fun b hb => .inl hb, fun b hb hm => ?_, fun b hb => ?_, fun o ho => ?_⟩, hX⟩
  · rcases List.mem_append.1 hm with h2 | h2
    · rcases List.mem_append.1 h2 with h3 | h3
      · exact hA1B b h3 b (List.mem_append_left _ hb) rfl
      · exact h1B b hb b h3 rfl
    · exact hs.apart b ((hown b).2 (.inr (.inl hb))) h2
  · rcases List.mem_append.1 hb with h2 | h2
    · rcases List.mem_append.1 h2 with h3 | h3
      · exact hs.lt b ((hown b).2 (.inl h3))
      · exact hs.lt b ((hown b).2 (.inr (.inr h3)))
    · exact Nat.lt_of_lt_of_le (hs.xlt b h2) hs.size
  · exact Rob.step hX (fun _ _ => rfl) (hs.obs o (List.mem_append_left _ (List.mem_append_right _ ho)))

/-- And back. -/
theorem frame_out {A Ω1 B Ω' : List Ob} {w w' : World} {r : Option Nat} {ds : List Deferred} (hs : St C (A ++ Ω1 ++ B) w) (hs' : St ⟨owns A ++ owns B ++ C.X, owns Ω1, w, r, ds⟩ Ω' w') :
    (St C (A ++ Ω' ++ B) w' ∧ Step (owns (A ++ Ω1 ++ B) ++ C.X) (owns (A ++ Ω' ++ B) ++ C.X) w w') ∧ Step (owns Ω' ++ (owns A ++ owns B ++ C.X)) (owns (A ++ Ω' ++ B) ++ C.X) w' w' := by
  have hown : ∀ b, b ∈ owns (A ++ Ω1 ++ B) ↔ b ∈ owns A ∨ b ∈ owns Ω1 ∨ b ∈ owns B := by
    intro b; simp only [owns_append, List.mem_append, or_assoc]
  have hnd := hs.nodup
  rw [owns_append, owns_append, List.append_assoc, List.nodup_append, List.nodup_append] at hnd
  obtain ⟨nA, ⟨n1, nB, h1B⟩, hA1B⟩ := hnd
  have hown' : ∀ b, b ∈ owns (A ++ Ω' ++ B) ↔ b ∈ owns A ∨ b ∈ owns Ω' ∨ b ∈ owns B := by
    intro b; simp only [owns_append, List.mem_append, or_assoc]
  have hm' : ∀ b ∈ owns Ω', b ∈ owns Ω1 ∨ w.heap.size ≤ b := hs'.mine
  have hback : Step (owns Ω' ++ (owns A ++ owns B ++ C.X)) (owns (A ++ Ω' ++ B) ++ C.X) w' w' := ⟨Nat.le_refl _, fun _ _ _ => rfl, fun r _ hn hm => hn (by
    rcases List.mem_append.1 hm with h2 | h2
    · rcases (hown' r).1 h2 with h3 | h3 | h3
      · exact List.mem_append_right _ (List.mem_append_left _ (List.mem_append_left _ h3))
      · exact List.mem_append_left _ h3
      · exact List.mem_append_right _ (List.mem_append_left _ (List.mem_append_right _ h3))
    · exact List.mem_append_right _ (List.mem_append_right _ h2))⟩
  refine ⟨hs.go (Ω' := A ++ Ω' ++ B) (w' := w') (owns Ω1) hs'.os hs'.tape hs'.output hs'.size (fun r hr hn => hs'.kept r hr hn) (fun r hr => (hown r).2 (.inr (.inl hr))) (by
    rw [owns_append, owns_append, List.append_assoc, List.nodup_append, List.nodup_append]
    refine ⟨nA, ⟨hs'.nodup, nB, fun a ha b hb e => ?_⟩, fun a ha b hb e => ?_⟩
    · subst e
      exact hs'.apart a ha (List.mem_append_left _ (List.mem_append_right _ hb))
    · subst e
      rcases List.mem_append.1 hb with h2 | h2
      · exact hs'.apart a h2 (List.mem_append_left _ (List.mem_append_left _ ha))
      · exact hA1B a ha a (List.mem_append_right _ h2) rfl) (fun b hb => by
    rcases (hown' b).1 hb with h2 | h2 | h2
    · exact .inl ((hown b).2 (.inl h2))
    · rcases hm' b h2 with h3 | h3
      · exact .inl ((hown b).2 (.inr (.inl h3)))
      · exact .inr ⟨h3, hs'.lt b h2⟩
    · exact .inl ((hown b).2 (.inr (.inr h2)))) (fun s o ho => by
    have hkeep : ∀ o, o ∈ A ∨ o ∈ B → ∀ r ∈ o.own, w'.heap[r]? = w.heap[r]? := by
      intro o ho r hr
      have hrm : r ∈ owns A ∨ r ∈ owns B := ho.imp (fun h1 => List.mem_flatMap.2 ⟨o, h1, hr⟩) (fun h1 => List.mem_flatMap.2 ⟨o, h1, hr⟩)
      have hlt : r < w.heap.size := hs.lt r ((hown r).2 (hrm.imp id .inr))
      exact hs'.kept r hlt (fun h1 => by
        rcases hrm with h2 | h2
        · exact hA1B r h2 r (List.mem_append_left _ h1) rfl
        · exact h1B r h1 r h2 rfl)
    rcases List.mem_append.1 ho with h1 | h1
    · rcases List.mem_append.1 h1 with h2 | h2
      · exact Rob.step s (hkeep o (.inl h2)) (hs.obs o (List.mem_append_left _ (List.mem_append_left _ h2)))
      · exact Rob.step hback (fun _ _ => rfl) (hs'.obs o h2)
    · exact Rob.step s (hkeep o (.inr h1)) (hs.obs o (List.mem_append_right _ h1))), hback⟩

/-- The rule of a call: what the callee needs stands in the middle of what is owned. -/
theorem L.enter {o : Oper} {f : FuncId} {as : List SV} {Ω1 : List Ob} {R : AV → List Ob → Prop} (hg : plainOp o = true) (hd : ∃ d, o.dst = some d ∧ d < n ∧ (∀ x Ω', R x Ω' → L P C n ops Q rest ((d, x) :: σ) (A ++ Ω' ++ B)) ∨ o.dst = none ∧ ∀ x Ω', R x Ω' → L P C n ops Q rest σ (A ++ Ω' ++ B))
    (run : ∀ a w, St C (A ++ Ω1 ++ B) w → Has n C.ds (owns (A ++ Ω1 ++ B) ++ C.X) w a σ → ∃ args : List Value, (execOp a.eval o).run P w = .ok (.enter f args.toArray) w ∧ All2 (Rsv (owns (A ++ Ω1 ++ B) ++ C.X) w) args as)
    (hF : Fc P f as Ω1 R) : L P C n ops Q (o :: rest) σ (A ++ Ω1 ++ B) := by
  intro a w hs ha
  obtain ⟨args, hr, hargs⟩ := run a w hs ha
  refine wpListIn_plain (plainOp_guard hg) fun K hK => ⟨Ctx.about, ?_⟩
  rw [plainOp_sem hg, hr, Oper.uponIn_enter]
  refine ⟨(by intro h; cases h), ?_⟩
  obtain ⟨hcs, hX⟩ := frame_in hs
  refine CallsIn.mono (calls_round (hF (owns A ++ owns B ++ C.X) w args hcs (hargs.mono fun _ _ => Rsv.step hX))) ?_
  rintro e w' ⟨v, x, Ω', rfl, hR, hs', hv⟩
  obtain ⟨hgo, hback⟩ := frame_out hs hs'
  have hv' : Rav (owns (A ++ Ω' ++ B) ++ C.X) w' v x := hv.step hback
  obtain ⟨d, h⟩ := hd
  rcases h with ⟨hd, hdn, hk⟩ | ⟨hd, hk⟩
  · rw [hd]
    exact hK _ _ (hk x Ω' hR _ _ hgo.1 ((ha.step hgo.2).put hdn hv'))
  · rw [hd]
    exact hK _ _ (hk x Ω' hR _ _ hgo.1 (ha.step hgo.2))

theorem run_call_exec {f : FuncId} {xs : List Operand} {ts : Array TypeId} {o : Oper} (ho : o.op = .call { callee := .value (.func f), args := xs.toArray, argTypes := ts }) (hf : enters P f = true) (a : Act) (w : World) :
    (execOp a.eval o).run P w = .ok (.enter f (xs.map a.eval).toArray) w := by
  simp [execOp, ho, resolve, Deferred.ofValue, Act.eval, invoke, run_callFunc hf]

/-- A call of a function by name that needs nothing of what is owned. -/
theorem L.call {f : FuncId} {xs : List Operand} {ts : Array TypeId} {as : List SV} {R : AV → List Ob → Prop} (hf : enters P f = true) (hx : evs σ xs = some as) (hdn : Nat.blt d n = true) (hF : Fc P f as [] R)
    (h : ∀ x Ω', R x Ω' → L P C n ops Q rest ((d, x) :: σ) (Ω' ++ Ω)) : L P C n ops Q ({ dst := some d, op := .call { callee := .value (.func f), args := xs.toArray, argTypes := ts }, type := ty, pos, after, guard := none } :: rest) σ Ω :=
  L.enter (A := []) (Ω1 := []) (B := Ω) rfl ⟨d, .inl ⟨rfl, bltLt hdn, fun x Ω' hR => by simpa using h x Ω' hR⟩⟩ (fun a w _ ha => ⟨xs.map a.eval, run_call_exec rfl hf a w, ha.vals hx⟩) hF

end
end Go.Q
namespace Go.Q
open Go

/-- The places and sizes of a struct's fields. -/
def placesOf (P : Program) (t : TypeId) : Option (List (Nat × Nat)) :=
  match P.underlying t with
  | some (.struct fs) => fs.toList.mapM fun f => (P.info? f.type).map fun i => (f.offset, i.size)
  | _ => none

def setL {α : Type} : List α → Nat → α → Option (List α)
  | _ :: l, 0, x => some (x :: l)
  | a :: l, i + 1, x => match setL l i x with
    | some l' => some (a :: l')
    | none => none
  | [], _, _ => none

theorem setL_eq {α : Type} : ∀ {l : List α} {i : Nat} {x : α} {l' : List α}, setL l i x = some l' → l' = l.set i x ∧ i < l.length
  | _ :: l, 0, x, l', h => by simp [setL] at h; subst h; simp
  | a :: l, i + 1, x, l', h => by
    simp only [setL] at h
    cases hh : setL l i x with
    | none => simp [hh] at h
    | some m =>
      simp [hh] at h
      subst h
      obtain ⟨h1, h2⟩ := setL_eq hh
      exact ⟨by simp [h1], by simp [h2]⟩
  | [], _, _, _, h => by simp [setL] at h

def setsL {α : Type} : List α → Nat → List α → Option (List α)
  | l, _, [] => some l
  | l, o, x :: xs => match setL l o x with
    | some l' => setsL l' (o + 1) xs
    | none => none

def buildC (pl : List (Nat × Nat)) : List CV → List (Nat × SV) → Option (List CV)
  | cs, [] => some cs
  | cs, (i, s) :: r => match pl[i]? with
    | some (o, sz + 1) => if Nat.beq s.cells.length (sz + 1) then (match setsL cs o s.cells with
      | some cs' => buildC pl cs' r
      | none => none) else none
    | _ => none

def evP (σ : Env) : List (Nat × Operand) → Option (List (Nat × SV))
  | [] => some []
  | (i, x) :: xs => match evS σ x, evP σ xs with
    | some s, some r => some ((i, s) :: r)
    | _, _ => none

theorem evS_ev {σ : Env} {x : Operand} {s : SV} (h : evS σ x = some s) : ev σ x = some (.v s) := by
  unfold evS at h
  cases h3 : ev σ x with
  | none => simp [h3] at h
  | some y => cases y <;> simp [h3] at h; subst h; rfl

theorem Has.parts {n : Nat} {ds : List Deferred} {Y : List Nat} {w : World} {a : Act} {σ : Env} (ha : Has n ds Y w a σ) : ∀ {ps : List (Nat × Operand)} {xs : List (Nat × SV)}, evP σ ps = some xs →
    All2 (fun (p : Nat × Value) (q : Nat × SV) => p.1 = q.1 ∧ Rsv Y w p.2 q.2) (ps.map fun p => (p.1, a.eval p.2)) xs
  | [], xs, h => by simp [evP] at h; subst h; trivial
  | (i, x) :: ps, xs, h => by
    simp only [evP] at h
    cases h1 : evS σ x with
    | none => simp [h1] at h
    | some s =>
      cases h2 : evP σ ps with
      | none => simp [h1, h2] at h
      | some r =>
        simp [h1, h2] at h
        subst h
        obtain ⟨v, hv, hr⟩ := ha.val (evS_ev h1)
        exact ⟨⟨rfl, by show Rsv Y w (a.eval x) s; rw [hv]; exact hr⟩, ha.parts h2⟩

/-- Cells replaced one by one, as the model does it. -/
def setsA (cs : Array Value) (o : Nat) (vs : List Value) : Array Value := (vs.toArray.zipIdx).foldl (fun cs (p : Value × Nat) => cs.setIfInBounds (o + p.2) p.1) cs

theorem setsA_list (vs : List Value) (o : Nat) : ∀ (k : Nat) (cs : Array Value), ((vs.toArray.zipIdx k).foldl (fun cs (p : Value × Nat) => cs.setIfInBounds (o + p.2) p.1) cs) = (vs.zipIdx k).foldl (fun cs (p : Value × Nat) => cs.setIfInBounds (o + p.2) p.1) cs := by
  intro k cs
  rw [← Array.foldl_toList]
  congr 1
  simp

theorem setsL_rel {Y : List Nat} {w : World} : ∀ {vs : List Value} {xs : List CV}, All2 (Rcv Y w) vs xs → ∀ {o k : Nat} {cs : Array Value} {ms ms' : List CV}, All2 (Rcv Y w) cs.toList ms → setsL ms (o + k) xs = some ms' →
    All2 (Rcv Y w) ((vs.zipIdx k).foldl (fun cs (p : Value × Nat) => cs.setIfInBounds (o + p.2) p.1) cs).toList ms' ∧ (o + k + xs.length ≤ ms.length ∨ xs = [])
  | [], [], _, o, k, cs, ms, ms', hc, h => by simp [setsL] at h; subst h; exact ⟨by simpa using hc, .inr rfl⟩
  | v :: vs, x :: xs, ⟨h1, h2⟩, o, k, cs, ms, ms', hc, h => by
    simp only [setsL] at h
    cases hs : setL ms (o + k) x with
    | none => simp [hs] at h
    | some m =>
      simp only [hs] at h
      obtain ⟨hm, hlt⟩ := setL_eq hs
      have hc' : All2 (Rcv Y w) (cs.setIfInBounds (o + k) v).toList m := by
        rw [hm, Array.toList_setIfInBounds]; exact hc.set h1 _
      have := setsL_rel h2 (o := o) (k := k + 1) (cs := cs.setIfInBounds (o + k) v) hc' (by rw [← Nat.add_assoc]; exact h)
      refine ⟨by simpa using this.1, .inl ?_⟩
      rcases this.2 with h3 | h3
      · rw [hm] at h3; simp at h3 ⊢; omega
      · subst h3; simp; omega
  | [], _ :: _, h2, _, _, _, _, _, _, _ => h2.elim
  | _ :: _, [], h2, _, _, _, _, _, _, _ => h2.elim

theorem fill_rel {Y : List Nat} {w : World} {pl : List (Nat × Nat)} {place : Nat → Option (Nat × Nat)} (hp : ∀ i, place i = pl[i]?) : ∀ {ps : List (Nat × Value)} {xs : List (Nat × SV)}, All2 (fun (p : Nat × Value) (q : Nat × SV) => p.1 = q.1 ∧ Rsv Y w p.2 q.2) ps xs →
    ∀ {cs : Array Value} {ms ys : List CV}, All2 (Rcv Y w) cs.toList ms → buildC pl ms xs = some ys → ∃ us, Instr.fill place cs ps = some us ∧ All2 (Rcv Y w) us.toList ys
  | [], [], _, cs, ms, ys, hc, h => by simp [buildC] at h; subst h; exact ⟨cs, rfl, hc⟩
  | (i, v) :: ps, (j, s) :: xs, ⟨⟨hij, hr⟩, h2⟩, cs, ms, ys, hc, h => by
    have hij' : i = j := hij
    subst hij'
    have hr' : Rsv Y w v s := hr
    have hcells := hr'.cells
    have hlen := hcells.length
    simp only [buildC] at h
    cases hpi : pl[i]? with
    | none => simp [hpi] at h
    | some q =>
      obtain ⟨o, sz0⟩ := q
      cases sz0 with
      | zero => simp [hpi] at h
      | succ sz =>
        simp only [hpi] at h
        split at h
        · rename_i hb
          have hb' : s.cells.length = sz + 1 := by simpa using hb
          cases hs : setsL ms o s.cells with
          | none => simp [hs] at h
          | some m =>
            simp only [hs] at h
            obtain ⟨h3, h4⟩ := setsL_rel hcells (o := o) (k := 0) (cs := cs) hc (by simpa using hs)
            have h5 : v.cells.zipIdx.foldl (fun cs (c, j) => cs.setIfInBounds (o + j) c) cs = (v.cells.toList.zipIdx 0).foldl (fun cs (p : Value × Nat) => cs.setIfInBounds (o + p.2) p.1) cs := by
              have := setsA_list v.cells.toList o 0 cs
              simpa using this
            obtain ⟨us, h6, h7⟩ := fill_rel hp h2 h3 h
            refine ⟨us, ?_, h7⟩
            have hcl := hc.length
            have hsz : v.cells.size = s.cells.length := by simpa using hlen
            have h8 : o + 0 + s.cells.length ≤ ms.length := h4.resolve_right (fun e => by rw [e] at hb'; simp at hb')
            simp only [Instr.fill, hp, hpi]
            rw [if_neg, h5]
            · exact h6
            · simp at hcl ⊢; omega
        · simp at h
  | [], _ :: _, h2, _, _, _, _, _ => h2.elim
  | _ :: _, [], h2, _, _, _, _, _ => h2.elim


theorem mapM_some {α β : Type} {f : α → Option β} : ∀ {l : List α} {r : List β}, l.mapM f = some r → ∀ (i : Nat) (a : α), l[i]? = some a → ∃ b, f a = some b ∧ r[i]? = some b
  | [], r, h, i, a, ha => by simp at ha
  | x :: l, r, h, i, a, ha => by
    simp only [List.mapM_cons, Option.bind_eq_bind, Option.bind_eq_some_iff, Option.pure_def, Option.some.injEq] at h
    obtain ⟨b, hb, r', hr', rfl⟩ := h
    cases i with
    | zero => simp at ha; subst ha; exact ⟨b, hb, rfl⟩
    | succ i => obtain ⟨c, hc, hr⟩ := mapM_some hr' i a (by simpa using ha); exact ⟨c, hc, by simpa using hr⟩

theorem mapM_none {α β : Type} {f : α → Option β} : ∀ {l : List α} {r : List β}, l.mapM f = some r → r.length = l.length
  | [], r, h => by simp at h; subst h; rfl
  | x :: l, r, h => by
    simp only [List.mapM_cons, Option.bind_eq_bind, Option.bind_eq_some_iff, Option.pure_def, Option.some.injEq] at h
    obtain ⟨b, _, r', hr', rfl⟩ := h
    simp [mapM_none hr']

theorem run_places {P : Program} {w : World} : ∀ {l : List Field} {r : List (Nat × Nat)}, l.mapM (fun f => (P.info? f.type).map fun i => (f.offset, i.size)) = some r →
    (l.mapM fun f => (do pure (f.offset, ← sizeOf f.type) : Sem (Nat × Nat))).run P w = .ok r w
  | [], r, h => by simp at h; subst h; simp
  | x :: l, r, h => by
    simp only [List.mapM_cons, Option.bind_eq_bind, Option.bind_eq_some_iff, Option.pure_def, Option.some.injEq] at h
    obtain ⟨b, hb, r', hr', rfl⟩ := h
    obtain ⟨i, hi, rfl⟩ := Option.map_eq_some_iff.1 hb
    have ih := run_places (P := P) (w := w) hr'
    simp [List.mapM_cons, sizeOf, typeInfo, hi] at ih ⊢
    simp [ih]

section
variable {P : Program} {C : Ctx} {n : Nat} {ops : Array Oper} {Q : Pst} {rest : List Oper} {σ σ' : Env} {Ω Ω' A B : List Ob} {d : Nat} {ty : TypeId} {pos : String} {after : Array Edge}

/-- A struct written out. -/
theorem L.bld {t : TypeId} {ps : List (Nat × Operand)} {pl : List (Nat × Nat)} {zc ys : List CV} {zs : Array Value} {xs : List (Nat × SV)} (hpl : placesOf P t = some pl) (hz : (P.info? t).bind (·.zero) = some (.agg zs)) (hk : zs.toList.all Value.oneCell' = true) (hzc : zs.toList.map kCV = zc) (hx : evP σ ps = some xs) (hb : buildC pl zc xs = some ys) (hdn : Nat.blt d n = true)
    (h : L P C n ops Q rest ((d, .v (.g ys)) :: σ) Ω) : L P C n ops Q ({ dst := some d, op := .build t ps.toArray, type := ty, pos, after, guard := none } :: rest) σ Ω := by
  subst hzc
  obtain ⟨ti, hti, hzv⟩ := Option.bind_eq_some_iff.1 hz
  refine L.pure rfl rfl hdn (fun a w hs ha => ?_) h
  unfold placesOf at hpl
  split at hpl
  · rename_i fs hu
    obtain ⟨us, h1, h2⟩ := fill_rel (pl := pl) (place := fun i => pl[i]?) (fun _ => rfl) (ha.parts hx) (cs := zs) (all2_k hk) hb
    refine ⟨.agg us, ?_, us.toList, rfl, h2⟩
    have h3 := run_places (P := P) (w := w) hpl
    have h4 : (fs.mapM fun f => (do Pure.pure (f.offset, ← sizeOf f.type) : Sem (Nat × Nat))).run P w = .ok pl.toArray w := by
      rw [Array.mapM_eq_mapM_toList, Sem.run_map, h3]
      rfl
    have h5 : (zeroValue t).run P w = .ok (.agg zs) w := by simp [zeroValue, typeInfo, hti, hzv]
    have h6 : (Instr.build t (ps.map fun p => (p.1, a.eval p.2)).toArray).run P w = .ok (.agg us) w := by
      unfold Instr.build
      simp only [Sem.run_bind, h5, Result.andThen_ok, run_underlying hu, h4, Value.cells, List.getElem?_toArray, h1, Sem.run_pure]
    simp only [execOp, Sem.run_bind]
    have h7 : (ps.toArray.map fun (p : Nat × Operand) => (p.1, a.eval p.2)) = (ps.map fun p => (p.1, a.eval p.2)).toArray := by simp
    rw [h7, h6]
    rfl
  · simp at hpl

end
end Go.Q
