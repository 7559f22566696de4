/- Slices: written out, made, appended to, given up as data; closures. -/
import Derived.Test.YtimimkdgofiloaaGreatDoorQd
namespace Go.Q
open Go

theorem flatten_get {α : Type} {sz : Nat} : ∀ {es : List (List α)}, (∀ e ∈ es, e.length = sz) → ∀ {i j : Nat}, j < sz → es.flatten[i * sz + j]? = es[i]?.bind (·[j]?)
  | [], _, i, j, _ => by simp
  | e :: es, h, 0, j, hj => by
    have he := h e (by simp)
    simp only [List.flatten_cons, Nat.zero_mul, Nat.zero_add, List.getElem?_cons_zero, Option.bind_some]
    rw [List.getElem?_append_left (by omega)]
  | e :: es, h, i + 1, j, hj => by
    have he := h e (by simp)
    simp only [List.flatten_cons, List.getElem?_cons_succ]
    rw [List.getElem?_append_right (by rw [he, Nat.add_mul]; omega)]
    rw [show (i + 1) * sz + j - e.length = i * sz + j by rw [he, Nat.add_mul]; omega]
    exact flatten_get (fun e he => h e (by simp [he])) hj

theorem flatten_len {α : Type} {sz : Nat} : ∀ {es : List (List α)}, (∀ e ∈ es, e.length = sz) → es.flatten.length = es.length * sz
  | [], _ => by simp
  | e :: es, h => by
    simp only [List.flatten_cons, List.length_append, List.length_cons]
    rw [h e (by simp), flatten_len (fun e he => h e (by simp [he])), Nat.add_mul]; omega

/-- Cells in a block, read as data. -/
theorem Rc.mk {X : List Nat} {w : World} {b c sz n : Nat} {cur : Array Value} {T : TypeId} {fr : Nat × Nat} {us : List Value} {es : List (List D)} (hb : w.heap[b]? = some (.cells cur T fr)) (hus : cur.toList.take (n * sz) = us) (hn : es.length = n) (hc : n ≤ c) (hm : n ≤ maxLen) (hX : b ∉ X)
    (hl : ∀ e ∈ es, e.length = sz) (hu : All2 (Rc X w) us es.flatten) : Rc X w (.slice (some ⟨b, 0, none⟩) n c) (.l sz es) := by
  have hfl := flatten_len hl
  have hul := hu.length
  refine .l b 0 n c sz es (fun i j => us.getD (i * sz + j) undef) hn hc hm (Array.getElem?_eq_some_iff.1 hb).1 hX hl (fun i j hi hj => ?_) fun i j e d he hd => ?_
  · have hlt : i * sz + j < us.length := by
      rw [hul, hfl, hn]
      calc i * sz + j < i * sz + sz := by omega
        _ = (i + 1) * sz := by rw [Nat.add_mul]; omega
        _ ≤ n * sz := Nat.mul_le_mul_right _ (by omega)
    rw [cell_of_row w b _ cur T fr hb, Nat.zero_add]
    have h1 : us[i * sz + j]? = some us[i * sz + j] := List.getElem?_eq_getElem hlt
    simp only [List.getD, h1, Option.getD_some]
    rw [← h1, ← hus, List.getElem?_take]
    rw [if_pos (by rw [← hus] at hlt; simp at hlt; omega)]
    simp
  · have hj : j < sz := by
      have := (List.getElem?_eq_some_iff.1 hd).1
      rw [hl e (List.mem_of_getElem? he)] at this
      exact this
    have hg : es.flatten[i * sz + j]? = some d := by rw [flatten_get hl hj, he]; exact hd
    obtain ⟨u, hu1, hu2⟩ := hu.get hg
    simp only [List.getD, hu1, Option.getD_some]
    exact hu2

/-- What an own row holds, as data, once it is given up. -/
theorem St.row_data {C : Ctx} {A B : List Ob} {v : Value} {T : TypeId} {sz : Nat} {es : List (List D)} {w : World} (h : St C (A ++ .row v T sz es :: B) w) : Rc (owns (A ++ B) ++ C.X) w v (.l sz es) := by
  obtain ⟨hd, hs⟩ := h.drop
  obtain ⟨us, h1, h2, h3⟩ := h.obs (.row v T sz es) (by simp)
  have h2' : All2 (Rc (owns (A ++ B) ++ C.X) w) us es.flatten := h2.mono fun _ _ => Rc.step hs
  rcases h1.2 with ⟨rfl, hn⟩ | ⟨g, cap, cur, rfl, _, hg, hnc, hcm, _, htake⟩
  · have : es = [] := List.eq_nil_of_length_eq_zero hn
    subst this
    exact .nil _ _ _
  · refine Rc.mk hg htake rfl hnc (Nat.le_trans hnc hcm) (fun hX => ?_) h3 h2'
    have hgo : g ∈ (Ob.row (.slice (some ⟨g, 0, none⟩) es.length cap) T sz es).own := by simp [Ob.own, Value.ownBlock]
    rcases List.mem_append.1 hX with hX | hX
    · have hnd := h.nodup
      rw [owns_append, owns_cons, List.nodup_append, List.nodup_append] at hnd
      obtain ⟨_, ⟨_, _, h5⟩, h6⟩ := hnd
      rw [owns_append] at hX
      rcases List.mem_append.1 hX with h7 | h7
      · exact h6 g h7 g (List.mem_append_left _ hgo) rfl
      · exact h5 g hgo g h7 rfl
    · exact h.apart g (by rw [owns_append, owns_cons]; exact List.mem_append_right _ (List.mem_append_left _ hgo)) hX

section
variable {P : Program} {C : Ctx} {n : Nat} {ops : Array Oper} {Q : Pst} {rest : List Oper} {σ σ' : Env} {Ω Ω' A B : List Ob} {d : Nat} {ty : TypeId} {pos : String} {after : Array Edge}

/-- Removal of an element of a list. -/
def delL {α : Type} : List α → Nat → Option (List α)
  | _ :: l, 0 => some l
  | a :: l, i + 1 => match delL l i with
    | some l' => some (a :: l')
    | none => none
  | [], _ => none

theorem delL_split {α : Type} : ∀ {l : List α} {i : Nat} {l' : List α} {y : α}, delL l i = some l' → l[i]? = some y → ∃ A B, l = A ++ y :: B ∧ l' = A ++ B
  | a :: l, 0, l', y, h, hy => by simp [delL] at h hy; subst h; subst hy; exact ⟨[], l, rfl, rfl⟩
  | a :: l, i + 1, l', y, h, hy => by
    simp only [delL] at h
    cases hh : delL l i with
    | none => simp [hh] at h
    | some m =>
      simp [hh] at h
      subst h
      obtain ⟨A, B, h1, h2⟩ := delL_split hh (y := y) (by simpa using hy)
      exact ⟨a :: A, B, by simp [h1], by simp [h2]⟩
  | [], _, _, _, h, _ => by simp [delL] at h

theorem setL_split {α : Type} {l : List α} {i : Nat} {x : α} {l' : List α} {y : α} (h : setL l i x = some l') (hy : l[i]? = some y) : ∃ A B, l = A ++ y :: B ∧ l' = A ++ x :: B := by
  obtain ⟨h1, h2⟩ := setL_eq h
  refine ⟨l.take i, l.drop (i + 1), ?_, ?_⟩
  · have hi : l[i] = y := by simpa [h2] using hy
    rw [← hi]; simp
  · rw [h1, List.set_eq_take_append_cons_drop, if_pos h2]

/-- An own row is given up: a slot that holds it holds data from here on. -/
theorem Has.pub {a : Act} {w : World} {v : Value} {T : TypeId} {sz : Nat} {es : List (List D)} (hs : St C (A ++ .row v T sz es :: B) w) (ha : Has n C.ds (owns (A ++ .row v T sz es :: B) ++ C.X) w a σ) (t : Nat) (ht : σ.lookup t = some (aR v)) :
    St C (A ++ B) w ∧ Has n C.ds (owns (A ++ B) ++ C.X) w a ((t, aL sz es) :: σ) := by
  obtain ⟨h1, h2⟩ := hs.drop
  refine ⟨h1, (ha.step h2).weak ht fun u hu => ?_⟩
  have hu' : u = v := hu.1
  rw [hu']; exact hs.row_data

theorem L.pub {v : Value} {T : TypeId} {sz : Nat} {es : List (List D)} (t i : Nat) (ht : σ.lookup t = some (aR v)) (hi : Ω[i]? = some (.row v T sz es)) (hd : delL Ω i = some Ω') (h : L P C n ops Q rest ((t, aL sz es) :: σ) Ω') : L P C n ops Q rest σ Ω := by
  obtain ⟨A, B, rfl, rfl⟩ := delL_split hd hi
  exact fun a w hs ha => let ⟨h1, h2⟩ := Has.pub hs ha t ht; h a w h1 h2
theorem T.pub {c : Code} {v : Value} {T' : TypeId} {sz : Nat} {es : List (List D)} (t i : Nat) (ht : σ.lookup t = some (aR v)) (hi : Ω[i]? = some (.row v T' sz es)) (hd : delL Ω i = some Ω') (h : T P C n Q c ((t, aL sz es) :: σ) Ω') : T P C n Q c σ Ω := by
  obtain ⟨A, B, rfl, rfl⟩ := delL_split hd hi
  exact fun a w hs ha => let ⟨h1, h2⟩ := Has.pub hs ha t ht; h a w h1 h2
theorem G.pub {K : Act → World → Prop} {v : Value} {T' : TypeId} {sz : Nat} {es : List (List D)} (t i : Nat) (ht : σ.lookup t = some (aR v)) (hi : Ω[i]? = some (.row v T' sz es)) (hd : delL Ω i = some Ω') (h : G C n K ((t, aL sz es) :: σ) Ω') : G C n K σ Ω := by
  obtain ⟨A, B, rfl, rfl⟩ := delL_split hd hi
  exact fun a w hs ha => let ⟨h1, h2⟩ := Has.pub hs ha t ht; h a w h1 h2

/-- What is owned is given up, at a place of the list. -/
theorem drop_at {i : Nat} {y : Ob} (hi : Ω[i]? = some y) (hd : delL Ω i = some Ω') : ∀ w, St C Ω w → St C Ω' w ∧ Step (owns Ω ++ C.X) (owns Ω' ++ C.X) w w := by
  obtain ⟨A, B, rfl, rfl⟩ := delL_split hd hi
  exact fun w hs => hs.drop

/-- A row of an own block's cell is given up: the cell holds data from here on. -/
theorem cell_pub {v : Value} {T T' : TypeId} {sz b o i j : Nat} {es : List (List D)} {cs cs' : List CV} {Ω1 : List Ob} (hj : Ω[j]? = some (.blk b T' cs)) (ho : cs[o]? = some (.r v)) (hc : setL cs o (.d (.l sz es)) = some cs') (hΩ1 : setL Ω j (.blk b T' cs') = some Ω1) (hi : Ω1[i]? = some (.row v T sz es)) (hd : delL Ω1 i = some Ω') :
    ∀ w, St C Ω w → St C Ω' w ∧ Step (owns Ω ++ C.X) (owns Ω' ++ C.X) w w := by
  intro w hs
  obtain ⟨A, B, hA, hB⟩ := setL_split hΩ1 hj
  have hij : i ≠ j := by
    intro e
    subst e
    have := setL_eq hΩ1
    rw [this.1] at hi
    simp [this.2] at hi
  -- the row stands in Ω, too
  have hi0 : Ω[i]? = some (.row v T sz es) := by
    rw [(setL_eq hΩ1).1] at hi
    rwa [List.getElem?_set_ne (Ne.symm hij)] at hi
  have hown : owns Ω1 = owns Ω := by rw [hA, hB]; simp [owns, Ob.own]
  obtain ⟨D1, D2, hD, hD'⟩ := delL_split hd hi
  -- first the row is dropped from Ω
  have hrow : ∃ E1 E2, Ω = E1 ++ .row v T sz es :: E2 := by
    obtain ⟨hlt, hget⟩ := List.getElem?_eq_some_iff.1 hi0
    exact ⟨Ω.take i, Ω.drop (i + 1), by rw [← hget]; simp⟩
  obtain ⟨E1, E2, hE⟩ := hrow
  have hdata : Rc (owns (E1 ++ E2) ++ C.X) w v (.l sz es) := by subst hE; exact hs.row_data
  have hsub : ∀ r, r ∈ owns Ω' → r ∈ owns Ω ∧ r ∉ (Ob.row v T sz es).own := by
    intro r hr
    have hnd := hs.nodup
    rw [← hown, hD, owns_append, owns_cons, List.nodup_append, List.nodup_append] at hnd
    obtain ⟨_, ⟨_, _, h5⟩, h6⟩ := hnd
    rw [hD', owns_append] at hr
    rcases List.mem_append.1 hr with h7 | h7
    · refine ⟨by rw [← hown, hD, owns_append]; exact List.mem_append_left _ h7, fun hm => h6 r h7 r (List.mem_append_left _ hm) rfl⟩
    · refine ⟨by rw [← hown, hD, owns_append, owns_cons]; exact List.mem_append_right _ (List.mem_append_right _ h7), fun hm => h5 r hm r h7 rfl⟩
  have hmemE : ∀ r, r ∈ owns Ω → r ∉ (Ob.row v T sz es).own → r ∈ owns (E1 ++ E2) := by
    intro r hr hn
    rw [hE, owns_append, owns_cons] at hr
    rw [owns_append]
    rcases List.mem_append.1 hr with h7 | h7
    · exact List.mem_append_left _ h7
    · rcases List.mem_append.1 h7 with h8 | h8
      · exact absurd h8 hn
      · exact List.mem_append_right _ h8
  refine hs.go [] rfl rfl rfl (Nat.le_refl _) (fun _ _ _ => rfl) (by simp) ?_ (fun r hr => .inl (hsub r hr).1) ?_
  · have hnd := hs.nodup
    rw [← hown, hD, owns_append, owns_cons, List.nodup_append, List.nodup_append] at hnd
    obtain ⟨h1, ⟨_, h4, h5⟩, h6⟩ := hnd
    rw [hD', owns_append, List.nodup_append]
    exact ⟨h1, h4, fun a ha b hb => h6 a ha b (List.mem_append_right _ hb)⟩
  · intro s o' ho'
    have hin1 : o' ∈ Ω1 := by
      rw [hD'] at ho'; rw [hD]
      rcases List.mem_append.1 ho' with h7 | h7
      · exact List.mem_append_left _ h7
      · exact List.mem_append_right _ (List.mem_cons_of_mem _ h7)
    rw [hB] at hin1
    have hcase : o' = .blk b T' cs' ∨ o' ∈ Ω := by
      rcases List.mem_append.1 hin1 with h7 | h7
      · right; rw [hA]; exact List.mem_append_left _ h7
      · rcases List.mem_cons.1 h7 with h8 | h8
        · exact .inl h8
        · right; rw [hA]; exact List.mem_append_right _ (List.mem_cons_of_mem _ h8)
    rcases hcase with rfl | hin
    · obtain ⟨us, h1, h2⟩ := hs.blk hj
      obtain ⟨u, hu, hur⟩ := h2.get ho
      have hu' : u = v := hur.1
      subst hu'
      obtain ⟨rfl, hlt⟩ := setL_eq hc
      refine ⟨us, h1, ?_⟩
      have h3 := h2.mono fun a c => Rcv.step (v := a) (c := c) s
      have h4 : Rcv (owns Ω' ++ C.X) w u (.d (.l sz es)) := hdata.step ⟨Nat.le_refl _, fun _ _ _ => rfl, fun r _ hn hm => hn (by
        rcases List.mem_append.1 hm with h7 | h7
        · exact List.mem_append_left _ (hmemE r (hsub r h7).1 (hsub r h7).2)
        · exact List.mem_append_right _ h7)⟩
      have h5 := h3.set h4 o
      have h6 : us.set o u = us := by
        obtain ⟨hlt', hget⟩ := List.getElem?_eq_some_iff.1 hu
        rw [← hget]; exact List.set_getElem_self ..
      rwa [h6] at h5
    · exact Rob.step s (fun _ _ => rfl) (hs.obs o' hin)

/-- The nil slice is owned, if one likes. -/
theorem nil_row (T : TypeId) (sz : Nat) : ∀ w, St C Ω w → St C (.row (.slice none 0 0) T sz [] :: Ω) w ∧ Step (owns Ω ++ C.X) (owns (.row (.slice none 0 0) T sz [] :: Ω) ++ C.X) w w := by
  intro w hs
  exact hs.newRow (World.grownBy.refl w none) (.slice none 0 0) T sz [] [] (World.ownsRow_nil w _ T sz) trivial (by simp)

/-! ### append -/

theorem run_append_idle {t e ty : TypeId} {i : TypeInfo} (ht : P.underlying t = some (.slice e)) (hi : P.info? e = some i) (w : World) (a x : Option Addr) (k cap c : Nat) (hk : k ≤ cap) :
    (Builtin.append_ #[t, t] ty #[.slice a k cap, .slice x 0 c]).run P w = .ok (.slice a k cap) w := by
  cases a <;> cases x <;> simp [Builtin.append_, run_underlying ht, sizeOf, typeInfo, hi, Builtin.lenOf, Builtin.firstCells, hk, storeCells, loadCells, loadCellsFrom]

/-- append onto an own row: it stays where it is, or moves to new memory. -/
theorem run_append_row {t e ty : TypeId} {i : TypeInfo} {z : Value} {size bytes : Nat} (ht : P.underlying t = some (.slice e)) (hi : P.info? e = some i) (hz : i.zero = some z) (hsize : i.size = size) (hby : i.bytes = bytes) (hzs : z.cells.size = size) (hsz : 0 < size)
    {w : World} {v : Value} {m : Nat} {xs : List Value} (hown : w.ownsRow 0 e size v m xs) (ad : Addr) (k c : Nat) (news : List Value) (hl : news.length = k * size) (hnews : ∀ (j : Nat) (u : Value), news[j]? = some u → w.cell? (ad.add j) = some u) (h1 : ∀ u ∈ news, u.oneCell' = true)
    (h63 : m + k ≤ maxLen) (hbytes : (m + k) * bytes ≤ 140737488355328) :
    ∃ v' w', (Builtin.append_ #[t, t] ty #[v, .slice (some ad) k c]).run P w = .ok v' w' ∧ w'.ownsRow 0 e size v' (m + k) (xs ++ news) ∧ w.grownBy w' v.ownBlock ∧ (v'.ownBlock = v.ownBlock ∨ ∀ g, v'.ownBlock = some g → w.heap.size ≤ g) := by
  rcases hown.2 with ⟨rfl, rfl⟩ | ⟨g, cap, cur, rfl, hbg, hg, hnc, hcm, hcs, htake⟩
  · have hx : xs = [] := List.eq_nil_of_length_eq_zero (by simpa using hown.1)
    subst hx
    obtain ⟨v', w', h2, h3, h4, _⟩ := run_append_own (P := P) w w.heap.size t ty e i z size bytes ht hi hz hsize hby hzs hsz (.slice none 0 0) 0 [] (World.ownsRow_nil w _ e size) ad k c news hl hnews h1 h63 hbytes (Nat.le_refl _)
    exact ⟨v', w', h2, ⟨h3.1, h3.2.imp id fun ⟨g, cap, cur, h5, _, h6⟩ => ⟨g, cap, cur, h5, Nat.zero_le _, h6⟩⟩, h4, .inr fun g hg => (h3.lt g hg).1⟩
  · by_cases hroom : m + k ≤ cap
    · obtain ⟨w', h2, h3, h4⟩ := run_append_fits (P := P) w 0 t ty e i size ht hi hsize g m cap xs hown ad k c news hl hnews h1 hroom
      exact ⟨_, w', h2, h3, h4, .inl rfl⟩
    · subst hsize
      subst hby
      have holds : ∀ j u, xs[j]? = some u → w.cell? ((⟨g, 0, none⟩ : Addr).add j) = some u := hown.cells (g := g) rfl
      have hr := run_append_grow (P := P) w t ty e i z ht hi hz ⟨g, 0, none⟩ m cap xs hown.1 holds ad k c news hl hnews (by omega) (by simp only [maxLen] at h63; omega) (growslice_fits (by omega) hbytes)
      have hge := grownCap_ge w (m + k) cap e
      refine ⟨_, _, hr, ⟨?_, .inr ⟨w.heap.size, _, _, rfl, Nat.zero_le _, heap_alloc_new w.drew _, hge, grownCap_le_maxLen w (m + k) cap e h63, ?_, ?_⟩⟩, ⟨rfl, rfl, rfl, by simp, fun k' hk _ => heapOld w.drew _ k' hk⟩, .inr fun g' hg' => ?_⟩
      · rw [List.length_append, hown.1, hl, Nat.add_mul]
      · simp only [Array.size_append, List.size_toArray, size_zeroCells, hzs, hown.1, hl, ← Nat.add_mul]
        congr 1
        omega
      · simp only [Array.toList_append, List.append_assoc]
        rw [← List.append_assoc]
        have : (m + k) * i.size = (xs ++ news).length := by rw [List.length_append, hown.1, hl, Nat.add_mul]
        rw [this]
        exact List.take_left
      · simp [Value.ownBlock] at hg'; omega

theorem Rc.slice_cells {X : List Nat} {w : World} {v : Value} {sz : Nat} {es : List (List D)} (h : Rc X w v (.l sz es)) (hne : es ≠ []) :
    ∃ b o c us, v = .slice (some ⟨b, o, none⟩) es.length c ∧ us.length = es.length * sz ∧ (∀ (j : Nat) (u : Value), us[j]? = some u → w.cell? ((⟨b, o, none⟩ : Addr).add j) = some u) ∧ All2 (Rc X w) us es.flatten ∧ (∀ e ∈ es, e.length = sz) := by
  cases h with
  | nil => exact absurd rfl hne
  | l b o n c _ _ cs hn hc hm hb hX hs hcell hrec =>
    subst hn
    have hfl := flatten_len hs
    have hidx : ∀ j, j < es.length * sz → 0 < sz ∧ j / sz < es.length ∧ j % sz < sz ∧ j / sz * sz + j % sz = j := by
      intro j hj
      have h0 : 0 < sz := by
        rcases Nat.eq_zero_or_pos sz with h0 | h0
        · subst h0; simp at hj
        · exact h0
      exact ⟨h0, Nat.div_lt_of_lt_mul (by rw [Nat.mul_comm]; exact hj), Nat.mod_lt _ h0, by rw [Nat.mul_comm]; exact Nat.div_add_mod j sz⟩
    refine ⟨b, o, c, (List.range (es.length * sz)).map (fun j => cs (j / sz) (j % sz)), rfl, by simp, ?_, ?_, hs⟩
    · intro j u hu
      have hj : j < es.length * sz := by
        have := (List.getElem?_eq_some_iff.1 hu).1
        simpa using this
      obtain ⟨_, h1, h2, h3⟩ := hidx j hj
      simp [hj] at hu
      subst hu
      rw [Addr.add_lit]
      have := hcell (j / sz) (j % sz) h1 h2
      rwa [Nat.add_assoc, h3] at this
    · refine All2.of_get (by simp [hfl]) fun j u y hu hy => ?_
      have hj : j < es.length * sz := by
        have := (List.getElem?_eq_some_iff.1 hu).1
        simpa using this
      obtain ⟨_, h1, h2, h3⟩ := hidx j hj
      simp [hj] at hu
      subst hu
      rw [← h3, flatten_get hs h2] at hy
      cases he : es[j / sz]? with
      | none => simp [he] at hy
      | some e =>
        simp [he] at hy
        exact hrec (j / sz) (j % sz) e y he hy

/-- 'append(row, data...)'. -/
theorem L.ap {t e : TypeId} {x y : Operand} {v : Value} {i sz bytes : Nat} {zv : Value} {es ds : List (List D)} (ht : P.underlying t = some (.slice e)) (hinfo : (P.info? e).map (fun i => (i.zero, i.size, i.bytes)) = some (some zv, sz, bytes)) (hzs : Nat.beq zv.cells.size sz = true) (hsz : Nat.blt 0 sz = true)
    (hx : ev σ x = some (aR v)) (hy : ev σ y = some (aL sz ds)) (hi : Ω[i]? = some (.row v e sz es)) (hb : (es.length + ds.length) * bytes ≤ 140737488355328) (hm : es.length + ds.length ≤ 9223372036854775807) (hdn : Nat.blt d n = true)
    (h : ∀ v' Ω', setL Ω i (.row v' e sz (es ++ ds)) = some Ω' → L P C n ops Q rest ((d, aR v') :: σ) Ω') : L P C n ops Q ({ dst := some d, op := .call { callee := .builtin .append, args := #[x, y], argTypes := #[t, t] }, type := ty, pos, after, guard := none } :: rest) σ Ω := by
  obtain ⟨ti, hti, hz0, hz1, hz2⟩ := info_parts hinfo
  refine L.any rfl rfl hdn fun a w hs ha => ?_
  have hrow : ∃ A B, Ω = A ++ .row v e sz es :: B := by
    obtain ⟨hlt, hget⟩ := List.getElem?_eq_some_iff.1 hi
    exact ⟨Ω.take i, Ω.drop (i + 1), by rw [← hget]; simp⟩
  obtain ⟨us, hown, hu, hl⟩ := hs.obs _ (List.mem_of_getElem? hi)
  have hset : ∀ ob, ∃ Ω', setL Ω i ob = some Ω' := by
    have hlt := (List.getElem?_eq_some_iff.1 hi).1
    intro ob
    clear hs ha hi hrow hown hu h
    induction Ω generalizing i with
    | nil => simp at hlt
    | cons o Ω ih =>
      cases i with
      | zero => exact ⟨_, rfl⟩
      | succ i => obtain ⟨Ω', hΩ'⟩ := ih (i := i) (by simpa using hlt); exact ⟨o :: Ω', by simp [setL, hΩ']⟩
  obtain ⟨vx, hvx, hrx⟩ := ha.val hx
  have hvx' : vx = v := hrx.1
  subst hvx'
  obtain ⟨vy, hvy, hry⟩ := ha.val hy
  have hry' : Rc (owns Ω ++ C.X) w vy (.l sz ds) := hry
  by_cases hne : ds = []
  · subst hne
    obtain ⟨A', c', rfl, _, _, _⟩ := Rc.slice_inv hry'
    obtain ⟨Ω', hΩ'⟩ := hset (.row vx e sz (es ++ []))
    have hΩeq : Ω' = Ω := by
      obtain ⟨h1, h2⟩ := setL_eq hΩ'
      rw [h1, List.append_nil]
      obtain ⟨hlt', hget⟩ := List.getElem?_eq_some_iff.1 hi
      rw [← hget]; exact List.set_getElem_self ..
    have hrun : (Builtin.append_ #[t, t] ty #[vx, .slice A' 0 c']).run P w = .ok vx w := by
      rcases hown.2 with ⟨rfl, _⟩ | ⟨g, cap, cur, rfl, _, _, hnc, _⟩
      · exact run_append_idle ht hti w none A' 0 0 c' (Nat.le_refl _)
      · exact run_append_idle ht hti w _ A' _ cap c' hnc
    refine ⟨vx, w, aR vx, Ω', ?_, ?_, ⟨rfl, hrx.2⟩, h vx Ω' hΩ'⟩
    · simp [execOp, resolve, invoke, builtin, hvx, hvy, hrun]
    · rw [hΩeq]; exact ⟨hs, Step.refl _ _⟩
  · obtain ⟨b, o, c, news, rfl, hnl, hnc, hn2, hnl2⟩ := Rc.slice_cells hry' hne
    have hone : ∀ u ∈ news, u.oneCell' = true := by
      intro u hu
      obtain ⟨j, hj⟩ := List.getElem?_of_mem hu
      obtain ⟨y, _, hc⟩ := hn2.getl hj
      exact hc.one
    obtain ⟨v', w', hr, h1, h2, h3⟩ := run_append_row (ty := ty) ht hti hz0 hz1 hz2 (by simpa using hzs) (by simpa using hsz) hown ⟨b, o, none⟩ ds.length c news hnl hnc hone (by simp only [maxLen]; omega) hb
    obtain ⟨Ω', hΩ'⟩ := hset (.row v' e sz (es ++ ds))
    obtain ⟨A, B, hA, hB⟩ := setL_split hΩ' hi
    refine ⟨v', w', aR v', Ω', ?_, ?_, ⟨rfl, ?_⟩, h v' Ω' hΩ'⟩
    · simp [execOp, resolve, invoke, builtin, hvx, hvy, hr]
    · subst hA
      subst hB
      exact hs.setRow (v' := v') (cs' := es ++ ds) (us ++ news) h2 h3 (by simpa using h1) (by rw [List.flatten_append]; exact hu.append hn2) (fun e he => by
        rcases List.mem_append.1 he with h4 | h4
        · exact hl e h4
        · exact hnl2 e h4)
    · rcases h1.2 with ⟨rfl, _⟩ | ⟨g, cap, cur, rfl, _⟩ <;> rfl

end
end Go.Q
