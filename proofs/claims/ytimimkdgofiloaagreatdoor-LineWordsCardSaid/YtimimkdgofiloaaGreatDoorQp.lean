/- Known rows given up as data; rows of pairs. A slice of data against nil. -/
import Derived.Test.YtimimkdgofiloaaGreatDoorQn
import Derived.Lib.SliceRun
namespace Go.Q
open Go

theorem St.raw_data {C : Ctx} {A B : List Ob} {g : Nat} {T : TypeId} {cur us : List Value} {n c sz : Nat} {es : List (List D)} {w : World} (h : St C (A ++ rawB g T cur :: B) w) (hus : cur.take (n * sz) = us) (hn : es.length = n) (hc : n ≤ c) (hm : n ≤ maxLen)
    (hl : ∀ e ∈ es, e.length = sz) (hu : ∀ X w, All2 (Rc X w) us es.flatten) : Rc (owns (A ++ B) ++ C.X) w (slV g 0 n c) (.l sz es) := by
  have hb : w.heap[g]? = some (.cells cur.toArray T (0, 0)) := h.obs (rawB g T cur) (by simp)
  refine Rc.mk hb (by simpa using hus) hn hc hm (fun hX => ?_) hl (hu _ _)
  have hgo : g ∈ (rawB g T cur).own := by simp [Ob.own]
  rcases List.mem_append.1 hX with hX | hX
  · have hnd := h.nodup
    rw [owns_append, owns_cons, List.nodup_append, List.nodup_append] at hnd
    obtain ⟨_, ⟨_, _, h5⟩, h6⟩ := hnd
    rw [owns_append] at hX
    rcases List.mem_append.1 hX with h7 | h7
    · exact h6 g h7 g (List.mem_append_left _ hgo) rfl
    · exact h5 g hgo g h7 rfl
  · exact h.apart g (by rw [owns_append, owns_cons]; exact List.mem_append_right _ (List.mem_append_left _ hgo)) hX

section
variable {P : Program} {C : Ctx} {n : Nat} {ops : Array Oper} {Q : Pst} {rest : List Oper} {σ σ' : Env} {Ω Ω' A B : List Ob} {d : Nat} {ty : TypeId} {pos : String} {after : Array Edge}

/-- What the elements are, exactly. -/
structure Flat (sz : Nat) (us : List Value) (es : List (List D)) : Prop where
  len : ∀ e ∈ es, e.length = sz
  rel : ∀ X w, All2 (Rc X w) us es.flatten

theorem Has.pubX {a : Act} {w : World} {g : Nat} {T : TypeId} {cur us : List Value} {m c sz : Nat} {es : List (List D)} (hs : St C (A ++ rawB g T cur :: B) w) (ha : Has n C.ds (owns (A ++ rawB g T cur :: B) ++ C.X) w a σ) (t : Nat) (ht : σ.lookup t = some (aR (slV g 0 m c)))
    (hus : cur.take (m * sz) = us) (hn : es.length = m) (hc : m ≤ c) (hm : m ≤ maxLen) (hF : Flat sz us es) :
    St C (A ++ B) w ∧ Has n C.ds (owns (A ++ B) ++ C.X) w a ((t, aL sz es) :: σ) := by
  obtain ⟨h1, h2⟩ := hs.drop
  refine ⟨h1, (ha.step h2).weak ht fun u hu => ?_⟩
  rw [hu.1]; exact hs.raw_data hus hn hc hm hF.len hF.rel

theorem L.pubX {g : Nat} {T : TypeId} {cur us : List Value} {m c sz : Nat} {es : List (List D)} (t i : Nat) (ht : σ.lookup t = some (aR (slV g 0 m c))) (hi : Ω[i]? = some (rawB g T cur)) (hd : delL Ω i = some Ω') (hus : cur.take (m * sz) = us) (hn : es.length = m) (hc : m ≤ c) (hm : m ≤ maxLen) (hF : Flat sz us es)
    (h : L P C n ops Q rest ((t, aL sz es) :: σ) Ω') : L P C n ops Q rest σ Ω := by
  obtain ⟨A, B, rfl, rfl⟩ := delL_split hd hi
  exact fun a w hs ha => let ⟨h1, h2⟩ := Has.pubX hs ha t ht hus hn hc hm hF; h a w h1 h2
theorem G.pubX {K : Act → World → Prop} {g : Nat} {T : TypeId} {cur us : List Value} {m c sz : Nat} {es : List (List D)} (t i : Nat) (ht : σ.lookup t = some (aR (slV g 0 m c))) (hi : Ω[i]? = some (rawB g T cur)) (hd : delL Ω i = some Ω') (hus : cur.take (m * sz) = us) (hn : es.length = m) (hc : m ≤ c) (hm : m ≤ maxLen) (hF : Flat sz us es)
    (h : G C n K ((t, aL sz es) :: σ) Ω') : G C n K σ Ω := by
  obtain ⟨A, B, rfl, rfl⟩ := delL_split hd hi
  exact fun a w hs ha => let ⟨h1, h2⟩ := Has.pubX hs ha t ht hus hn hc hm hF; h a w h1 h2

/-- A row with these cells, or nil: a slice, and what is owned with it. -/
def MapO (T : TypeId) (sz : Nat) (vals : List Value) (m : Nat) (v : Value) (Ω : List Ob) : Prop :=
  (v = .slice none 0 0 ∧ m = 0 ∧ Ω = []) ∨ ∃ g c cur, v = slV g 0 m c ∧ m ≤ c ∧ c ≤ maxLen ∧ c * sz ≤ cur.length ∧ cur.take (m * sz) = vals ∧ Ω = [rawB g T cur]

theorem MapO.form {T : TypeId} {sz : Nat} {vals : List Value} {m : Nat} {v : Value} (h : MapO T sz vals m v Ω) : ∃ a c, v = .slice a m c := by
  rcases h with ⟨rfl, rfl, _⟩ | ⟨g, c, cur, rfl, _⟩
  · exact ⟨_, _, rfl⟩
  · exact ⟨_, _, rfl⟩

theorem MapO.raw {T : TypeId} {sz : Nat} {vals : List Value} {m : Nat} {a : Option Addr} {c0 : Nat} (h : MapO T sz vals m (.slice a m c0) Ω) (hm : 0 < m) : ∃ g cur, a = some ⟨g, 0, none⟩ ∧ m ≤ c0 ∧ c0 ≤ maxLen ∧ c0 * sz ≤ cur.length ∧ cur.take (m * sz) = vals ∧ Ω = [rawB g T cur] := by
  rcases h with ⟨h1, h2, _⟩ | ⟨g, c, cur, h1, h2⟩
  · omega
  · simp only [Value.slice.injEq] at h1
    obtain ⟨rfl, _, rfl⟩ := h1
    exact ⟨g, cur, rfl, h2⟩

/-- A slot that holds one is given up: data from here on. -/
theorem G.pubM {K : Act → World → Prop} {T : TypeId} {sz : Nat} {vals : List Value} {es : List (List D)} {v : Value} {Ω1 Ω2 : List Ob} (t : Nat) (ht : σ.lookup t = some (aR v)) (hM : MapO T sz vals es.length v Ω1) (hF : Flat sz vals es)
    (h : G C n K ((t, aL sz es) :: σ) Ω2) : G C n K σ (Ω1 ++ Ω2) := by
  rcases hM with ⟨rfl, hm, rfl⟩ | ⟨g, c, cur, rfl, hc, hcm, _, hus, rfl⟩
  · have : es = [] := List.eq_nil_of_length_eq_zero hm
    subst this
    exact G.nilD t sz ht h
  · exact G.pubX t 0 ht rfl rfl hus rfl hc (Nat.le_trans hc hcm) hF h
theorem L.pubM {T : TypeId} {sz : Nat} {vals : List Value} {es : List (List D)} {v : Value} {Ω1 Ω2 : List Ob} (t : Nat) (ht : σ.lookup t = some (aR v)) (hM : MapO T sz vals es.length v Ω1) (hF : Flat sz vals es)
    (h : L P C n ops Q rest ((t, aL sz es) :: σ) Ω2) : L P C n ops Q rest σ (Ω1 ++ Ω2) := by
  rcases hM with ⟨rfl, hm, rfl⟩ | ⟨g, c, cur, rfl, hc, hcm, _, hus, rfl⟩
  · have : es = [] := List.eq_nil_of_length_eq_zero hm
    subst this
    exact L.nilD t sz ht h
  · exact L.pubX t 0 ht rfl rfl hus rfl hc (Nat.le_trans hc hcm) hF h

/-- x >> k of what isn't below 0. -/
theorem L.shr {t u : TypeId} {x y : Operand} {a : Int} (k : Nat) {ky : IntKind} (z : Int) (hx : ev σ x = some (aI .u64 a)) (hy : ev σ y = some (aI ky (k : Int))) (hk : k ≤ 64) (hz : a / 2 ^ k = z) (hdn : Nat.blt d n = true)
    (h : L P C n ops Q rest ((d, aI .u64 z) :: σ) Ω) : L P C n ops Q ({ dst := some d, op := .binOp .shr t x y u, type := ty, pos, after, guard := none } :: rest) σ Ω := by
  refine L.pure rfl rfl hdn (fun a' w hs ha => ⟨.int .u64 z, ?_, rI⟩) h
  have e1 := ha.int hx
  have e2 := ha.int hy
  subst hz
  simp [execOp, e1, e2, eqGuard, binOp]

theorem L.slN {t e : TypeId} {x y : Operand} {k : IntKind} {sz : Nat} (hu : P.underlying t = some (.slice e)) (hsz : (P.info? e).map (·.size) = some sz) (hx : ev σ x = some (aR (.slice none 0 0))) (hy : ev σ y = some (aI k 0)) (hdn : Nat.blt d n = true)
    (h : L P C n ops Q rest ((d, aR (.slice none 0 0)) :: σ) Ω) : L P C n ops Q ({ dst := some d, op := .slice t x (some y) none none, type := ty, pos, after, guard := none } :: rest) σ Ω := by
  obtain ⟨ti, hti, rfl⟩ := Option.map_eq_some_iff.1 hsz
  refine L.pure rfl rfl hdn (fun a' w hs ha => ⟨.slice none 0 0, ?_, rR rfl⟩) h
  simp [execOp, Instr.sliceAt, Instr.slice, run_underlying hu, ha.raw hx, Instr.sliceBounds, ha.int hy, Instr.sliceBound, asIntOf, sizeOf, typeInfo, hti]

/-- An own row without spare room, of known elements: as cells. -/
theorem row_raw {g : Nat} {T : TypeId} {sz : Nat} {es : List (List D)} {us : List Value} (i : Nat) (hi : Ω[i]? = some (.row (slV g 0 es.length es.length) T sz es)) (hex : exVs (es.flatten.map .d) = some us) (hΩ : setL Ω i (rawB g T us) = some Ω') :
    ∀ w, St C Ω w → St C Ω' w ∧ Step (owns Ω ++ C.X) (owns Ω' ++ C.X) w w := by
  intro w hs
  obtain ⟨A, B, rfl, rfl⟩ := setL_split hΩ hi
  have hown : owns (A ++ rawB g T us :: B) = owns (A ++ .row (slV g 0 es.length es.length) T sz es :: B) := by simp [owns, Ob.own, Value.ownBlock]
  refine hs.go [] rfl rfl rfl (Nat.le_refl _) (fun _ _ _ => rfl) (by simp) (by rw [hown]; exact hs.nodup) (fun b hb => .inl (by rw [hown] at hb; exact hb)) fun s o ho => ?_
  rw [hown] at s ⊢
  have hcase : o = rawB g T us ∨ o ∈ A ++ .row (slV g 0 es.length es.length) T sz es :: B := by
    rcases List.mem_append.1 ho with h4 | h4
    · exact .inr (List.mem_append_left _ h4)
    · rcases List.mem_cons.1 h4 with h5 | h5
      · exact .inl h5
      · exact .inr (List.mem_append_right _ (List.mem_cons_of_mem _ h5))
  rcases hcase with rfl | hin
  · obtain ⟨xs, h1, h2, h3⟩ := hs.obs (.row (slV g 0 es.length es.length) T sz es) (by simp)
    have h2' : All2 (Rcv (owns (A ++ .row (slV g 0 es.length es.length) T sz es :: B) ++ C.X) w) xs (es.flatten.map .d) := by
      have : ∀ {l : List Value} {m : List D}, All2 (Rc (owns (A ++ .row (slV g 0 es.length es.length) T sz es :: B) ++ C.X) w) l m → All2 (Rcv (owns (A ++ .row (slV g 0 es.length es.length) T sz es :: B) ++ C.X) w) l (m.map .d) := by
        intro l
        induction l with
        | nil => intro m h; cases m <;> exact h
        | cons a l ih =>
          intro m h
          cases m with
          | nil => exact h
          | cons b m => exact ⟨h.1, ih h.2⟩
      exact this h2
    obtain rfl := exVs_ok hex h2'
    rcases h1.2 with ⟨h5, _⟩ | ⟨g', cap, cur, h5, _, hg, _, _, hcs, htake⟩
    · simp at h5
    · simp only [Value.slice.injEq, Option.some.injEq, Addr.mk.injEq, and_true, true_and] at h5
      obtain ⟨rfl, rfl⟩ := h5
      show w.heap[g]? = some (.cells xs.toArray T (0, 0))
      rw [hg, ← htake, List.take_of_length_le (by simp [hcs])]
  · exact Rob.step s (fun _ _ => rfl) (hs.obs o hin)

end
end Go.Q
namespace Go.Q
open Go
section
variable {P : Program} {C : Ctx} {n : Nat} {ops : Array Oper} {Q : Pst} {rest : List Oper} {σ : Env} {Ω : List Ob} {d : Nat} {ty : TypeId} {pos : String} {after : Array Edge}

theorem L.eqNil {t u e : TypeId} {x : Operand} {sz : Nat} {es : List (List D)} (hu : P.underlying t = some (.slice e)) (hx : ev σ x = some (aL sz es)) (hdn : Nat.blt d n = true)
    (h : ∀ b, (b = true → es = []) → L P C n ops Q rest ((d, aB b) :: σ) Ω) : L P C n ops Q ({ dst := some d, op := .binOp .eql t x (.const (.slice none 0 0)) u, type := ty, pos, after, guard := none } :: rest) σ Ω := by
  refine L.any rfl rfl hdn fun a w hs ha => ?_
  obtain ⟨v, hv, hr⟩ := ha.val hx
  obtain ⟨A, c, rfl, _, _, hA⟩ := Rc.slice_inv hr
  have hev : a.eval (.const (.slice none 0 0)) = .slice none 0 0 := rfl
  refine ⟨.bool A.isNone, w, aB A.isNone, Ω, ?_, ⟨hs, Step.refl _ _⟩, rB, h _ fun hn => ?_⟩
  · have hr2 := Lib.run_eql_slice_nil (P := P) w t e A es.length c 0 0 hu
    simp [execOp, hv, hev, eqGuard, hr2]
  · cases es with
    | nil => rfl
    | cons e es =>
      obtain ⟨b, o, rfl, _⟩ := hA (by simp)
      cases hn

/-- A row that has elements stands at the head of a block. -/
theorem L.rowV {v : Value} {T : TypeId} {sz : Nat} {es : List (List D)} (i : Nat) (hi : Ω[i]? = some (.row v T sz es)) (hne : 0 < es.length) (h : ∀ g c, v = slV g 0 es.length c → L P C n ops Q rest σ Ω) : L P C n ops Q rest σ Ω := by
  intro a w hs ha
  obtain ⟨us, h1, _, _⟩ := hs.obs _ (List.mem_of_getElem? hi)
  rcases h1.2 with ⟨_, h2⟩ | ⟨g, c, cur, h2, _⟩
  · omega
  · exact h g c h2 a w hs ha

end
end Go.Q
