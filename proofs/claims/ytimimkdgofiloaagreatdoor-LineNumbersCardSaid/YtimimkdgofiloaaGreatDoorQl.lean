/- A region that draws, each of whose first operations yields a known value and turns known owned things into known ones. append onto a slice without room that was written out empty. -/
import Derived.Test.YtimimkdgofiloaaGreatDoorQk
namespace Go.Q
open Go

def FlowP (P : Program) (C : Ctx) (n : Nat) (l : List Oper) (m : Nat) (σb : Env) (Ωc : List Ob) (V : List AV) (i : Nat) (o : Oper) (p : List Ob × List Ob) : Prop :=
  ∀ (σ' : Env) (Ωf : List Ob), Sub σ' σb → (∀ j, ancB l.toArray m i j = true → σ'.lookup (dstAt l j) = V[j]?) →
    L P C n l.toArray (Fin C n (fun x post => V[i]? = some x ∧ post = p.2) (dstAt l i) σ' (Ωc ++ Ωf)) [o] σ' (p.1 ++ (Ωc ++ Ωf))

def FlowPs (P : Program) (C : Ctx) (n : Nat) (l : List Oper) (m : Nat) (σb : Env) (Ωc : List Ob) (V : List AV) : Nat → List Oper → List (List Ob × List Ob) → Prop
  | i, o :: r, p :: ps => FlowP P C n l m σb Ωc V i o p ∧ FlowPs P C n l m σb Ωc V (i + 1) r ps
  | _, [], _ => True
  | _, _ :: _, [] => False

section
variable {P : Program} {C : Ctx} {n : Nat} {Q : Pst} {σ : Env} {Ω : List Ob}

theorem FlowPs.flow {l : List Oper} {m : Nat} {σb : Env} {Ωc : List Ob} {V : List AV} {pp : List (List Ob × List Ob)} : ∀ {r : List Oper} {k : Nat} {ps : List (List Ob × List Ob)}, (∀ i, ps[i]? = pp[k + i]?) → FlowPs P C n l m σb Ωc V k r ps →
    FlowOps P C n l m σb Ωc (fun i => (pp[i]?.map (·.1)).getD []) (fun i x _ post => V[i]? = some x ∧ post = (pp[i]?.map (·.2)).getD []) k r
  | [], _, _, _, _ => trivial
  | _ :: _, _, [], _, h => h.elim
  | o :: r, k, p :: ps, hp, ⟨h1, h2⟩ => by
    have h0 := hp 0
    simp at h0
    refine ⟨fun X posts σ' Ωf hs hA => ?_, FlowPs.flow (fun i => by have := hp (i + 1); rw [show k + 1 + i = k + (i + 1) by omega, ← this]; simp) h2⟩
    have := h1 σ' Ωf hs fun j hj => by obtain ⟨h3, h4, _⟩ := hA j hj; rw [h3, h4]
    show L P C n l.toArray (Fin C n (fun x post => V[k]? = some x ∧ post = (pp[k]?.map (·.2)).getD []) _ σ' _) _ _ ((pp[k]?.map (·.1)).getD [] ++ _)
    rw [← h0]
    exact this

theorem flatMap_get {α β : Type} (f : α → List β) : ∀ (l : List α), (List.range l.length).flatMap (fun i => (l[i]?.map f).getD []) = l.flatMap f
  | [] => rfl
  | a :: l => by
    rw [List.length_cons, List.range_succ_eq_map, List.flatMap_cons, List.flatMap_cons, List.flatMap_map]
    simp only [List.getElem?_cons_zero, Option.map_some, Option.getD_some]
    congr 1
    have := flatMap_get f l
    rw [← this]
    congr 1

theorem T.drawP {id : Nat} {l : List Oper} (m : Nat) (σb : Env) (V : List AV) (pp : List (List Ob × List Ob)) (Ωc : List Ob) (hm : P.follows .mixedOrders = true) (hml : Nat.ble m l.length = true) (hV : Nat.beq V.length m = true) (hpp : Nat.beq pp.length m = true) (hf : frontOk l.toArray m σb = true) (ht : tailOk l.toArray m = true) (hsub : Sub σ σb)
    (hΩ : (pp.flatMap (·.1) ++ Ωc).Perm Ω)
    (hops : FlowPs P C n l m σb Ωc V 0 (l.take m) pp)
    (hrest : L P C n l.toArray Q (l.drop m) (frontV (l.take m) V ++ σb) (pp.flatMap (·.2) ++ Ωc)) :
    T P C n Q (.region id l.toArray true) σ Ω := by
  have hml' : m ≤ l.length := by simpa using hml
  have hV' : V.length = m := by simpa using hV
  have hp' : pp.length = m := by simpa using hpp
  refine T.draw m σb Ωc (fun i => (pp[i]?.map (·.1)).getD []) (fun i x _ post => V[i]? = some x ∧ post = (pp[i]?.map (·.2)).getD []) hm hml hf ht hsub ?_ (FlowPs.flow (pp := pp) (fun i => by rw [Nat.zero_add]) hops) fun X posts hR => ?_
  · have := flatMap_get (fun q : List Ob × List Ob => q.1) pp
    rw [hp'] at this
    rw [this]; exact hΩ
  · have h1 : (List.range m).flatMap posts = pp.flatMap (·.2) := by
      rw [← flatMap_get (fun q : List Ob × List Ob => q.2) pp, hp']
      apply flatMap_congr'
      intro i hi
      exact (hR i (by simpa using hi)).2
    rw [h1, frontV_eq (V := V) (by simp; omega) (fun i hi => by
      have := (hR i (by simp at hi; simp; omega)).1
      rw [Nat.zero_add]; exact this)]
    exact hrest

theorem G.finP {V : List AV} {i d : Nat} {σ' : Env} {Ωr : List Ob} {x : AV} {post : List Ob} {Ω : List Ob} (h : V[i]? = some x) (hΩ : Ω = post ++ Ωr) : G C n (Fin C n (fun x p => V[i]? = some x ∧ p = post) d σ' Ωr .normal) ((d, x) :: σ') Ω :=
  G.fin post ⟨h, rfl⟩ hΩ

end
end Go.Q
namespace Go.Q
open Go
section
variable {P : Program} {C : Ctx} {n : Nat} {ops : Array Oper} {Q : Pst} {rest : List Oper} {σ : Env} {Ω : List Ob} {d : Nat} {ty : TypeId} {pos : String} {after : Array Edge}

/-- A slot that is written twice holds what was written last. -/
theorem Has.two {n : Nat} {ds : List Deferred} {Y : List Nat} {w : World} {a : Act} {σ : Env} {d : Nat} {x y : AV} (ha : Has n ds Y w a ((d, x) :: (d, y) :: σ)) : Has n ds Y w a ((d, x) :: σ) := by
  refine ⟨ha.size, ha.defers, fun d' z hz => ha.get d' z ?_⟩
  by_cases he : d' = d
  · subst he
    simp [List.lookup] at hz ⊢
    exact hz
  · have hb : (d' == d) = false := by simpa using he
    simp only [List.lookup, hb] at hz ⊢
    exact hz

/-- []T{}: nothing is kept as own. -/
theorem L.bs0 {t e : TypeId} {sz by_ : Nat} {zv : Value} (hu : P.underlying t = some (.slice e)) (hinfo : (P.info? e).map (fun i => (i.zero, i.size, i.bytes)) = some (some zv, sz, by_)) (h0 : Nat.blt 0 sz = true) (hdn : Nat.blt d n = true)
    (h : ∀ b, L P C n ops Q rest ((d, aR (.slice (some ⟨b, 0, none⟩) 0 0)) :: σ) Ω) : L P C n ops Q ({ dst := some d, op := .buildSlice t 0 #[], type := ty, pos, after, guard := none } :: rest) σ Ω :=
  L.bsR (ps := []) (xs := []) (es := []) (m := 0) rfl hu hinfo h0 (by simp) rfl rfl hdn fun b => L.conv (drop_at (i := 0) rfl rfl) (h b)

/-- append onto it. -/
theorem L.ap0 {t e : TypeId} {x y : Operand} {g sz bytes : Nat} {zv : Value} {ds : List (List D)} (ht : P.underlying t = some (.slice e)) (hinfo : (P.info? e).map (fun i => (i.zero, i.size, i.bytes)) = some (some zv, sz, bytes)) (hzs : Nat.beq zv.cells.size sz = true)
    (hx : ev σ x = some (aR (.slice (some ⟨g, 0, none⟩) 0 0))) (hy : ev σ y = some (aL sz ds)) (hb : ds.length * bytes ≤ 140737488355328) (hm : ds.length ≤ 9223372036854775807) (hdn : Nat.blt d n = true)
    (h1 : ∀ v', ds ≠ [] → L P C n ops Q rest ((d, aR v') :: σ) (.row v' e sz ds :: Ω)) (h2 : ds = [] → L P C n ops Q rest ((d, aR (.slice (some ⟨g, 0, none⟩) 0 0)) :: σ) Ω) :
    L P C n ops Q ({ dst := some d, op := .call { callee := .builtin .append, args := #[x, y], argTypes := #[t, t] }, type := ty, pos, after, guard := none } :: rest) σ Ω := by
  obtain ⟨ti, hti, hz0, hz1, hz2⟩ := info_parts hinfo
  subst hz1
  subst hz2
  refine L.any rfl rfl hdn fun a w hs ha => ?_
  have hvx := ha.raw hx
  obtain ⟨vy, hvy, hry⟩ := ha.val hy
  have hry' : Rc (owns Ω ++ C.X) w vy (.l ti.size ds) := hry
  by_cases hne : ds = []
  · subst hne
    obtain ⟨A', c', rfl, _, _, _⟩ := Rc.slice_inv hry'
    have hrun := run_append_idle (P := P) (ty := ty) ht hti w (some ⟨g, 0, none⟩) A' 0 0 c' (Nat.le_refl _)
    refine ⟨_, w, aR _, Ω, ?_, ⟨hs, Step.refl _ _⟩, ⟨rfl, rfl⟩, h2 rfl⟩
    simp [execOp, resolve, invoke, builtin, hvx, hvy, hrun]
  · obtain ⟨b, o, c, news, rfl, hnl, hnc, hn2, hnl2⟩ := Rc.slice_cells hry' hne
    have hpos : 0 < ds.length := List.length_pos_iff.2 hne
    have hr := run_append_grow (P := P) w t ty e ti zv ht hti hz0 ⟨g, 0, none⟩ 0 0 [] (by simp) (by simp) ⟨b, o, none⟩ ds.length c news hnl hnc (by omega) (by omega) (growslice_fits (by omega) (by rw [Nat.zero_add]; exact hb))
    have hge := grownCap_ge w (0 + ds.length) 0 e
    have hzs' : zv.cells.size = ti.size := by simpa using hzs
    have hnew := (hs.drew.1).newRow (w' := w.drew.alloc (.cells ((([] : List Value).toArray ++ news.toArray) ++ Builtin.zeroCells zv.cells (grownCap w (0 + ds.length) 0 e - (0 + ds.length))) e)) (World.grownBy_alloc w.drew _ none) (.slice (some ⟨w.heap.size, 0, none⟩) (0 + ds.length) (grownCap w (0 + ds.length) 0 e)) e ti.size news ds ⟨hnl, .inr ⟨w.heap.size, _, _, by rw [Nat.zero_add], Nat.le_refl _, heap_alloc_new w.drew _, by omega, grownCap_le_maxLen w (0 + ds.length) 0 e (by simp only [maxLen]; omega), ?_, ?_⟩⟩ (hn2.mono fun _ _ => Rc.step hs.drew.2) hnl2
    · refine ⟨_, _, aR (.slice (some ⟨w.heap.size, 0, none⟩) (0 + ds.length) (grownCap w (0 + ds.length) 0 e)), _, ?_, ⟨hnew.1, hs.drew.2.trans hnew.2⟩, ⟨rfl, rfl⟩, h1 _ hne⟩
      simp only [execOp, resolve, invoke, builtin]
      simp [hvx, hvy, hr]
    · simp only [Array.size_append, List.size_toArray, size_zeroCells, hzs', hnl, List.length_nil, Nat.zero_add, ← Nat.add_mul]
      congr 1
      rw [Nat.zero_add] at hge
      omega
    · simp only [Array.toList_append, List.nil_append]
      rw [← hnl]
      exact List.take_left

/-- append onto it; what comes of it is data. -/
theorem L.apD {t e : TypeId} {x y : Operand} {g sz bytes : Nat} {zv : Value} {ds : List (List D)} (ht : P.underlying t = some (.slice e)) (hinfo : (P.info? e).map (fun i => (i.zero, i.size, i.bytes)) = some (some zv, sz, bytes)) (hzs : Nat.beq zv.cells.size sz = true)
    (hx : ev σ x = some (aR (.slice (some ⟨g, 0, none⟩) 0 0))) (hy : ev σ y = some (aL sz ds)) (hb : ds.length * bytes ≤ 140737488355328) (hm : ds.length ≤ 9223372036854775807) (hdn : Nat.blt d n = true)
    (h : L P C n ops Q rest ((d, aL sz ds) :: σ) Ω) :
    L P C n ops Q ({ dst := some d, op := .call { callee := .builtin .append, args := #[x, y], argTypes := #[t, t] }, type := ty, pos, after, guard := none } :: rest) σ Ω := by
  refine L.ap0 ht hinfo hzs hx hy hb hm hdn (fun v' _ => ?_) fun hds => ?_
  · refine L.pub d 0 (by simp [List.lookup]) rfl rfl ?_
    exact fun a w hs ha => h a w hs ha.two
  · subst hds
    exact fun a w hs ha => h a w hs (ha.weak (d := d) (x := aR (.slice (some ⟨g, 0, none⟩) 0 0)) (by simp [List.lookup]) (fun v hv => by rw [hv.1]; exact Rc.nil _ _ _)).two

/-- What append onto an empty one has made: a row of its own, or still the empty one. -/
def Em (v : Value) (e : TypeId) (sz : Nat) (es : List (List D)) (post : List Ob) : Prop := post = [.row v e sz es] ∨ (es = [] ∧ post = [] ∧ ∃ g, v = .slice (some ⟨g, 0, none⟩) 0 0)

theorem L.ap1 {t e : TypeId} {x y : Operand} {v : Value} {sz bytes : Nat} {zv : Value} {es ds : List (List D)} {post Ω2 : List Ob} (ht : P.underlying t = some (.slice e)) (hinfo : (P.info? e).map (fun i => (i.zero, i.size, i.bytes)) = some (some zv, sz, bytes)) (hzs : Nat.beq zv.cells.size sz = true) (hsz : Nat.blt 0 sz = true)
    (hx : ev σ x = some (aR v)) (hy : ev σ y = some (aL sz ds)) (hE : Em v e sz es post) (hne : ds ≠ []) (hb : (es.length + ds.length) * bytes ≤ 140737488355328) (hm : es.length + ds.length ≤ 9223372036854775807) (hdn : Nat.blt d n = true)
    (h : ∀ v', L P C n ops Q rest ((d, aR v') :: σ) (.row v' e sz (es ++ ds) :: Ω2)) :
    L P C n ops Q ({ dst := some d, op := .call { callee := .builtin .append, args := #[x, y], argTypes := #[t, t] }, type := ty, pos, after, guard := none } :: rest) σ (post ++ Ω2) := by
  rcases hE with rfl | ⟨rfl, rfl, g, rfl⟩
  · exact L.app (F := fun v' => .row v' e sz (es ++ ds) :: Ω2) 0 ht hinfo hzs hsz hx hy rfl hb hm hdn (fun _ => rfl) h
  · refine L.ap0 ht hinfo hzs hx hy (by simpa using hb) (by simpa using hm) hdn (fun v' _ => ?_) fun hds => absurd hds hne
    have := h v'
    rwa [List.nil_append] at this

theorem L.apE {t e : TypeId} {x y : Operand} {g sz bytes : Nat} {zv : Value} {ds : List (List D)} (ht : P.underlying t = some (.slice e)) (hinfo : (P.info? e).map (fun i => (i.zero, i.size, i.bytes)) = some (some zv, sz, bytes)) (hzs : Nat.beq zv.cells.size sz = true)
    (hx : ev σ x = some (aR (.slice (some ⟨g, 0, none⟩) 0 0))) (hy : ev σ y = some (aL sz ds)) (hb : ds.length * bytes ≤ 140737488355328) (hm : ds.length ≤ 9223372036854775807) (hdn : Nat.blt d n = true)
    (h : ∀ v' post, Em v' e sz ds post → L P C n ops Q rest ((d, aR v') :: σ) (post ++ Ω)) :
    L P C n ops Q ({ dst := some d, op := .call { callee := .builtin .append, args := #[x, y], argTypes := #[t, t] }, type := ty, pos, after, guard := none } :: rest) σ Ω :=
  L.ap0 ht hinfo hzs hx hy hb hm hdn (fun v' _ => h v' [_] (.inl rfl)) fun hds => h _ [] (.inr ⟨hds, rfl, _, rfl⟩)

end
end Go.Q