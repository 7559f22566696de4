/- A region that draws, in which an operation may use up what another one has made. -/
import Derived.Test.YtimimkdgofiloaaGreatDoorQp
namespace Go.Q
open Go

theorem flatMap_out {α β : Type} [DecidableEq α] (f : α → List β) {i : α} : ∀ {l : List α}, l.Nodup → i ∈ l → (l.flatMap f).Perm (f i ++ (l.filter fun k => decide (k ≠ i)).flatMap f)
  | [], _, h => by simp at h
  | a :: l, hn, h => by
    rw [List.nodup_cons] at hn
    by_cases ha : a = i
    · subst ha
      have : (l.filter fun k => decide (k ≠ a)) = l := by
        rw [List.filter_eq_self]
        intro x hx
        have : x ≠ a := fun e => hn.1 (e ▸ hx)
        simpa using this
      simp only [List.flatMap_cons]
      rw [List.filter_cons_of_neg (by simp), this]
    · have hi : i ∈ l := by
        rcases List.mem_cons.1 h with h | h
        · exact absurd h.symm ha
        · exact h
      have ih := flatMap_out f (l := l) hn.2 hi
      rw [List.filter_cons_of_pos (by simpa using ha)]
      simp only [List.flatMap_cons]
      refine (ih.append_left (f a)).trans ?_
      rw [← List.append_assoc, ← List.append_assoc]
      exact List.perm_append_comm.append_right _


/-- What an operation uses up. -/
def useC (c : Nat → Option Nat) (posts : Nat → List Ob) (i : Nat) : List Ob := match c i with
  | some j => posts j
  | none => []
/-- What is left of what one has made, when all are through. -/
def leftC (m : Nat) (c : Nat → Option Nat) (posts : Nat → List Ob) (k : Nat) : List Ob := if (List.range m).any fun i => match c i with
    | some j => Nat.beq j k
    | none => false then [] else posts k

/-- What is owned by whom while some have come up. -/
structure CurC (m : Nat) (listed : Array Bool) (c : Nat → Option Nat) (Pre posts cur : Nat → List Ob) : Prop where
  wait : ∀ i, i < m → ¬ Ld listed i → cur i = Pre i
  made : ∀ i, i < m → Ld listed i → (∀ k, k < m → Ld listed k → c k ≠ some i) → cur i = posts i
  used : ∀ i, i < m → ∀ k, k < m → Ld listed k → c k = some i → cur i = []

theorem CurC.done {m : Nat} {listed : Array Bool} {c : Nat → Option Nat} {Pre posts cur : Nat → List Ob} (h : CurC m listed c Pre posts cur) (hall : ∀ k, k < m → Ld listed k) {i : Nat} (hi : i < m) : cur i = leftC m c posts i := by
  unfold leftC
  split
  · rename_i hu
    rw [List.any_eq_true] at hu
    obtain ⟨k, hk, hu⟩ := hu
    have hk := List.mem_range.1 hk
    cases hc : c k with
    | none => simp [hc] at hu
    | some j =>
      have : j = i := by simpa [hc] using hu
      subst this
      exact h.used j hi k hk (hall k hk) hc
  · rename_i hu
    refine h.made i hi (hall i hi) fun k hk _ hc => hu ?_
    rw [List.any_eq_true]
    exact ⟨k, List.mem_range.2 hk, by simp [hc]⟩

/-- One comes up: what it uses and what it began with stand ahead; then what it has made. -/
theorem CurC.turn {m : Nat} {listed : Array Bool} {c : Nat → Option Nat} {Pre posts cur : Nat → List Ob} {i : Nat} (h : CurC m listed c Pre posts cur) (him : i < m) (hnl : ¬ Ld listed i)
    (hcu : ∀ i i' j, i < m → i' < m → c i = some j → c i' = some j → i = i') (hci : ∀ j, c i = some j → j < m ∧ Ld listed j) (hcl : ∀ k j, k < m → Ld listed k → c k = some j → Ld listed j) :
    ∃ A, ((List.range m).flatMap cur).Perm (useC c posts i ++ (Pre i ++ A)) ∧ ∀ post, ∃ cur', (i < listed.size → CurC m (listed.setIfInBounds i true) c Pre (fun j => if j = i then post else posts j) cur') ∧ ((List.range m).flatMap cur').Perm (post ++ A) := by
  have hir : i ∈ List.range m := List.mem_range.2 him
  cases hc : c i with
  | none =>
    refine ⟨((List.range m).filter fun k => decide (k ≠ i)).flatMap cur, ?_, fun post => ⟨fun k => if k = i then post else cur k, fun hsz => ⟨fun k hk hn => ?_, fun k hk hl hno => ?_, fun k hk k' hk' hl hck => ?_⟩, ?_⟩⟩
    · have := flatMap_out cur List.nodup_range hir
      rw [h.wait i him hnl] at this
      simpa only [useC, hc, List.nil_append] using this
    · have hki : k ≠ i := fun e => hn ((Ld.set hsz).2 (.inl e))
      simp only [hki, if_false]
      exact h.wait k hk fun h1 => hn ((Ld.set hsz).2 (.inr h1))
    · by_cases hki : k = i
      · simp [hki]
      · simp only [hki, if_false]
        rcases (Ld.set hsz).1 hl with h1 | h1
        · exact absurd h1 hki
        · exact h.made k hk h1 fun k' hk' hl' => hno k' hk' ((Ld.set hsz).2 (.inr hl'))
    · rcases (Ld.set hsz).1 hl with h1 | h1
      · subst h1; rw [hc] at hck; cases hck
      · have hki : k ≠ i := fun e => hnl (e ▸ hcl k' k hk' h1 hck)
        simp only [hki, if_false]
        exact h.used k hk k' hk' h1 hck
    · refine (flatMap_out _ List.nodup_range hir).trans ?_
      rw [if_pos rfl]
      refine List.Perm.of_eq (congrArg (post ++ ·) (flatMap_congr' fun k hk => ?_))
      have : k ≠ i := by simpa using (List.mem_filter.1 hk).2
      simp [this]
  | some j =>
    obtain ⟨hjm, hjl⟩ := hci j hc
    have hji : j ≠ i := fun e => hnl (e ▸ hjl)
    have hjr : j ∈ (List.range m).filter fun k => decide (k ≠ i) := List.mem_filter.2 ⟨List.mem_range.2 hjm, by simpa using hji⟩
    have hnd : ((List.range m).filter fun k => decide (k ≠ i)).Nodup := List.nodup_range.filter _
    have hcj : cur j = posts j := h.made j hjm hjl fun k hk hkl e => hnl (hcu k i j hk him e hc ▸ hkl)
    refine ⟨(((List.range m).filter fun k => decide (k ≠ i)).filter fun k => decide (k ≠ j)).flatMap cur, ?_, fun post => ⟨fun k => if k = i then post else if k = j then [] else cur k, fun hsz => ⟨fun k hk hn => ?_, fun k hk hl hno => ?_, fun k hk k' hk' hl hck => ?_⟩, ?_⟩⟩
    · have h1 := flatMap_out cur List.nodup_range hir
      have h2 := flatMap_out cur hnd hjr
      rw [h.wait i him hnl] at h1
      rw [hcj] at h2
      refine h1.trans ((h2.append_left _).trans ?_)
      simp only [useC, hc]
      rw [← List.append_assoc, ← List.append_assoc]
      exact List.perm_append_comm.append_right _
    · have hki : k ≠ i := fun e => hn ((Ld.set hsz).2 (.inl e))
      have hkl : ¬ Ld listed k := fun h1 => hn ((Ld.set hsz).2 (.inr h1))
      have hkj : k ≠ j := fun e => hkl (e ▸ hjl)
      simp only [hki, hkj, if_false]
      exact h.wait k hk hkl
    · by_cases hki : k = i
      · simp [hki]
      · by_cases hkj : k = j
        · subst hkj
          exact absurd hc (hno i him ((Ld.set hsz).2 (.inl rfl)))
        · simp only [hki, hkj, if_false]
          rcases (Ld.set hsz).1 hl with h1 | h1
          · exact absurd h1 hki
          · exact h.made k hk h1 fun k' hk' hl' => hno k' hk' ((Ld.set hsz).2 (.inr hl'))
    · rcases (Ld.set hsz).1 hl with h1 | h1
      · subst h1
        rw [hc] at hck
        cases hck
        simp [hji]
      · have hki : k ≠ i := fun e => hnl (e ▸ hcl k' k hk' h1 hck)
        by_cases hkj : k = j
        · simp [hkj, hji]
        · simp only [hki, hkj, if_false]
          exact h.used k hk k' hk' h1 hck
    · refine (flatMap_out _ List.nodup_range hir).trans ?_
      rw [if_pos rfl]
      refine List.Perm.append_left _ ((flatMap_out _ hnd hjr).trans ?_)
      simp only [hji, if_false, if_true, List.nil_append]
      refine List.Perm.of_eq (flatMap_congr' fun k hk => ?_)
      have h1 : k ≠ j := by simpa using (List.mem_filter.1 hk).2
      have h2 : k ≠ i := by simpa using (List.mem_filter.1 (List.mem_filter.1 hk).1).2
      simp [h1, h2]

section
variable {P : Program} {C : Ctx} {n : Nat} {ops : Array Oper} {Q : Pst} {σ : Env} {Ω : List Ob}

theorem T.flowC {id : Nat} {l : List Oper} (m : Nat) (σb : Env) (Ωc : List Ob) (Pre : Nat → List Ob) (c : Nat → Option Nat) (R : Nat → AV → (Nat → AV) → List Ob → Prop) (hm : P.follows .mixedOrders = true) (hml : Nat.ble m l.length = true) (hf : frontOk l.toArray m σb = true) (ht : tailOk l.toArray m = true) (hsub : Sub σ σb)
    (hΩ : ((List.range m).flatMap Pre ++ Ωc).Perm Ω) (hcm : ∀ i j, i < m → c i = some j → j < m ∧ ancB l.toArray m i j = true) (hcu : ∀ i i' j, i < m → i' < m → c i = some j → c i' = some j → i = i')
    (hops : ∀ i, Nat.blt i m = true → ∀ (o : Oper) (d : Nat) (X : Nat → AV) (posts : Nat → List Ob) (σ' : Env) (Ωf : List Ob), l[i]? = some o → o.dst = some d → Sub σ' σb →
      (∀ j, ancB l.toArray m i j = true → (∃ o' d', l[j]? = some o' ∧ o'.dst = some d' ∧ σ'.lookup d' = some (X j)) ∧ R j (X j) (mask l.toArray m j X) (posts j)) →
      L P C n l.toArray (Fin C n (fun x post => R i x (mask l.toArray m i X) post) d σ' (Ωc ++ Ωf)) [o] σ' (useC c posts i ++ (Pre i ++ (Ωc ++ Ωf))))
    (hrest : ∀ (X : Nat → AV) (posts : Nat → List Ob), (∀ i, i < m → R i (X i) (mask l.toArray m i X) (posts i)) → L P C n l.toArray Q (l.drop m) (frontEnv (l.take m) 0 X ++ σb) ((List.range m).flatMap (leftC m c posts) ++ Ωc)) :
    T P C n Q (.region id l.toArray true) σ Ω := by
  have hml' : m ≤ l.length := by simpa using hml
  intro a w hs ha
  obtain ⟨hs, hst0⟩ := hs.perm hΩ.symm
  have ha := ha.step hst0
  obtain ⟨hs, hst⟩ := hs.drew
  have ha := ha.step hst
  refine wpIn_region_any hm ?_
  rw [show ({ w with drawn := w.drawn + 1 } : World) = w.drew from rfl]
  -- the checks
  have hfront : ∀ (i : Nat), i < m → ∃ o d, l[i]? = some o ∧ o.guard = none ∧ o.dst = some d ∧ (∀ p ∈ σb, p.1 ≠ d) ∧ (∀ j o' d', j < m → j ≠ i → l[j]? = some o' → o'.dst = some d' → d' ≠ d) ∧ ∀ e ∈ o.after, Region.binds .any e = true → e.on < i := by
    intro i hi
    unfold frontOk at hf
    rw [List.all_eq_true] at hf
    have h1 := hf i (by simpa using hi)
    simp only [List.getElem?_toArray] at h1
    cases ho : l[i]? with
    | none => simp [ho] at h1
    | some o =>
      simp only [ho, Bool.and_eq_true] at h1
      cases hd : o.dst with
      | none => simp [hd] at h1
      | some d =>
        simp only [hd, Bool.and_eq_true] at h1
        obtain ⟨⟨h2, h3, h4⟩, h5⟩ := h1
        refine ⟨o, d, rfl, by simpa using h2, hd, fun p hp => ?_, fun j o' d' hj hji ho' hd' => ?_, fun e he hb => ?_⟩
        · rw [List.all_eq_true] at h3
          have := h3 p hp
          exact nbeq (by simpa only [Bool.not_eq_true'] using this)
        · rw [List.all_eq_true] at h4
          have := h4 j (by simpa using hj)
          simp only [ho', hd', Bool.or_eq_true, Bool.not_eq_true'] at this
          rcases this with h6 | h6
          · exact absurd (by simpa using h6 : i = j).symm hji
          · exact fun e => nbeq h6 e.symm
        · rw [List.all_eq_true] at h5
          have := h5 e (by simpa using he)
          simp [hb] at this
          exact this
  have htail : ∀ (i : Nat) (o : Oper), m ≤ i → l[i]? = some o → (∀ j, j < i → ancB l.toArray l.length i j = true) ∧ ∀ e ∈ o.after, Region.binds .any e = true → e.on < i := by
    intro i o hi ho
    unfold tailOk at ht
    rw [List.all_eq_true] at ht
    have hil : i < l.length := (List.getElem?_eq_some_iff.1 ho).1
    have h1 := ht i (by simpa using hil)
    simp only [List.getElem?_toArray, ho, Bool.or_eq_true, Bool.and_eq_true, List.size_toArray] at h1
    rcases h1 with h1 | ⟨h1, h2⟩
    · have : i < m := by simpa using h1
      omega
    · refine ⟨fun j hj => ?_, fun e he hb => ?_⟩
      · rw [List.all_eq_true] at h1
        exact h1 j (by simpa using hj)
      · rw [List.all_eq_true] at h2
        have := h2 e (by simpa using he)
        simp [hb] at this
        exact this
  -- the invariant
  have key : ∀ (fuel : Nat) (listed : Array Bool) (a : Act) (w : World) (X : Nat → AV) (posts cur : Nat → List Ob), listed.size = l.length → Closed l.toArray listed → (∀ i, Ld listed i → i < m) →
      ((List.range l.length).filter fun i => !listed.getD i false).length = fuel →
      (∀ i, i < m → Ld listed i → R i (X i) (mask l.toArray m i X) (posts i)) → CurC m listed c Pre posts cur → St C ((List.range m).flatMap cur ++ Ωc) w →
      (∃ σ', Has n C.ds (owns ((List.range m).flatMap cur ++ Ωc) ++ C.X) w a σ' ∧ Sub σ' σb ∧ ∀ i o d, i < m → Ld listed i → l[i]? = some o → o.dst = some d → σ'.lookup d = some (X i)) →
      wpAnyIn C.F 0 P .any l.toArray Q fuel listed a w := by
    intro fuel
    induction fuel with
    | zero =>
      intro listed a w X posts cur hsz hc hlm hfu hR hcur hs hσ
      -- all has come up: so the front is all
      have hall : ∀ i, i < l.length → Ld listed i := by
        intro i hi
        have h1 : (List.range l.length).filter (fun i => !listed.getD i false) = [] := List.eq_nil_of_length_eq_zero hfu
        rw [List.filter_eq_nil_iff] at h1
        have := h1 i (by simpa using hi)
        unfold Ld
        simpa using this
      have hmm : m = l.length := by
        rcases Nat.lt_or_ge m l.length with h1 | h1
        · have := hlm m (hall m h1); omega
        · omega
      obtain ⟨σ', hH, hsb, hget⟩ := hσ
      have hown : (List.range m).flatMap cur = (List.range m).flatMap (leftC m c posts) := flatMap_congr' fun i hi => hcur.done (fun k hk => hall k (by omega)) (List.mem_range.1 hi)
      rw [hown] at hs hH
      have hL := hrest X posts (fun i hi => hR i hi (hall i (by omega)))
      refine tail_any C [] l.length listed a w (by simp) (fun i hi => ⟨fun _ => hi, fun _ => hall i hi⟩) hsz (fun i o hi ho => by have := (List.getElem?_eq_some_iff.1 ho).1; omega) hc ?_
      rw [hmm, List.drop_length] at hL
      rw [hmm] at hs hH
      refine hL a w hs ⟨hH.size, hH.defers, fun d x hx => ?_⟩
      rcases lookup_append hx with h1 | h1
      · obtain ⟨i, o, h2, h3, rfl⟩ := frontEnv_get h1
        have hil : i < l.length := by
          have := (List.getElem?_eq_some_iff.1 h2).1
          rw [List.length_take] at this; omega
        have h2' : l[i]? = some o := by
          rw [List.getElem?_take, if_pos (by omega)] at h2
          exact h2
        exact hH.get d _ (by rw [Nat.zero_add]; exact hget i o d (by omega) (hall i hil) h2' h3)
      · exact hH.get d x (hsb.get h1)
    | succ fuel ih =>
      intro listed a w X posts cur hsz hc hlm hfu hR hcur hs hσ
      by_cases hallm : ∀ i, i < m → Ld listed i
      · -- the tail
        obtain ⟨σ', hH, hsb, hget⟩ := hσ
        have hown : (List.range m).flatMap cur = (List.range m).flatMap (leftC m c posts) := flatMap_congr' fun i hi => hcur.done (fun k hk => hallm k hk) (List.mem_range.1 hi)
        rw [hown] at hs hH
        have hL := hrest X posts (fun i hi => hR i hi (hallm i hi))
        have hlen : (l.drop m).length = fuel + 1 := by
          rw [← hfu]
          have h1 : (List.range l.length).filter (fun i => !listed.getD i false) = (List.range l.length).filter (fun i => decide (m ≤ i)) := by
            apply List.filter_congr
            intro i hi
            by_cases him : i < m
            · have : listed.getD i false = true := hallm i him
              rw [this]; simp; omega
            · have : ¬ listed.getD i false = true := fun h => him (hlm i h)
              simp at this
              simp [this]; omega
          rw [h1]
          have h2 : List.range l.length = List.range m ++ List.range' m (l.length - m) := by
            rw [List.range_eq_range', List.range_eq_range']
            have : l.length = m + (l.length - m) := by omega
            conv => lhs; rw [this]
            rw [← List.range'_append_1]; simp
          rw [h2, List.filter_append, List.filter_eq_nil_iff.2, List.filter_eq_self.2]
          · simp
          · intro i hi; have := List.mem_range'.1 hi; simp; omega
          · intro i hi; have := List.mem_range.1 hi; simp; omega
        rw [← hlen]
        refine tail_any C (l.drop m) m listed a w rfl (fun i hi => ⟨fun h => hlm i h, fun h => hallm i h⟩) hsz htail hc ?_
        refine hL a w hs ⟨hH.size, hH.defers, fun d x hx => ?_⟩
        rcases lookup_append hx with h1 | h1
        · obtain ⟨i, o, h2, h3, rfl⟩ := frontEnv_get h1
          have him : i < m := by
            have := (List.getElem?_eq_some_iff.1 h2).1
            rw [List.length_take] at this; omega
          have h2' : l[i]? = some o := by
            rw [List.getElem?_take, if_pos (by omega)] at h2
            exact h2
          exact hH.get d _ (by rw [Nat.zero_add]; exact hget i o d him (hallm i him) h2' h3)
        · exact hH.get d x (hsb.get h1)
      · -- one of the front
        have hready : ∀ j, j ∈ Region.ready .any l.toArray listed → j < m ∧ ¬ Ld listed j ∧ ∃ o, l[j]? = some o ∧ ∀ e ∈ o.after, Region.binds .any e = true → Ld listed e.on := by
          intro j hj
          rw [mem_ready] at hj
          obtain ⟨h0, o, ho, hall⟩ := hj
          have hjl : j < l.length := by
            have := (Array.getElem?_eq_some_iff.1 ho).1
            simpa using this
          have hnl : ¬ Ld listed j := by
            intro h1
            unfold Ld at h1
            have hjs : j < listed.size := by omega
            simp [hjs] at h0 h1
            rw [h0] at h1
            simp at h1
          refine ⟨?_, hnl, o, by simpa using ho, hall⟩
          rcases Nat.lt_or_ge j m with h1 | h1
          · exact h1
          · exfalso
            apply hallm
            intro i hi
            have := (htail j o h1 (by simpa using ho)).1 i (by omega)
            exact hc.anc l.length j i this (fun o' ho' e he hb => by
              rw [ho] at ho'
              simp at ho'
              subst ho'
              exact hall e he hb)
        refine ⟨fun h0 => ?_, fun i hi => ?_⟩
        · -- there is a least one that has not come up: it is ready
          exfalso
          have hex : ∃ i, i < m ∧ ¬ Ld listed i := by
            rcases Classical.not_forall.1 hallm with ⟨i, hi⟩
            rcases Classical.not_imp.1 hi with ⟨h1, h2⟩
            exact ⟨i, h1, h2⟩
          obtain ⟨i, ⟨him, hnl⟩, hmin⟩ := exists_least (p := fun i => i < m ∧ ¬ Ld listed i) hex
          obtain ⟨o, d, ho, _, _, _, _, hlt⟩ := hfront i him
          have : i ∈ Region.ready .any l.toArray listed := by
            rw [mem_ready]
            refine ⟨?_, o, by simpa using ho, fun e he hb => ?_⟩
            · unfold Ld at hnl
              have hjs : i < listed.size := by omega
              simp [hjs] at hnl ⊢
              exact hnl
            · have h1 := hlt e he hb
              by_cases h2 : Ld listed e.on
              · exact h2
              · have := hmin e.on ⟨by omega, h2⟩
                omega
          rw [h0] at this
          simp at this
        · obtain ⟨him, hnl, o, ho, hall⟩ := hready i hi
          obtain ⟨o', d, ho', hg, hd, hσd, hdd, hlt⟩ := hfront i him
          rw [ho] at ho'
          simp at ho'
          subst ho'
          obtain ⟨σ', hH, hsb, hget⟩ := hσ
          obtain ⟨A, hA, hAB⟩ := hcur.turn him hnl hcu (fun j hj => ⟨(hcm i j him hj).1, hc.anc m i j (hcm i j him hj).2 (fun o' ho' e he hb => by
            have ho2 : l[i]? = some o' := by simpa using ho'
            rw [ho] at ho2
            simp at ho2
            subst ho2
            exact hall e he hb)⟩) (fun k j hk hkl hkc => hc.anc m k j (hcm k j hk hkc).2 fun o' ho' e he hb => hc k o' ho' hkl e he hb)
          have hp : ((List.range m).flatMap cur ++ Ωc).Perm (useC c posts i ++ (Pre i ++ (Ωc ++ A))) := by
            refine (hA.append_right Ωc).trans ?_
            rw [List.append_assoc, List.append_assoc]
            exact (List.perm_append_comm.append_left _).append_left _
          obtain ⟨hs1, hst1⟩ := hs.perm hp
          have hanc : ∀ j, ancB l.toArray m i j = true → Ld listed j := fun j hj => hc.anc m i j hj (fun o' ho' e he hb => by
            have ho2 : l[i]? = some o' := by simpa using ho'
            rw [ho] at ho2
            simp at ho2
            subst ho2
            exact hall e he hb)
          have hL := hops i (by simpa using him) o d X posts σ' A ho hd hsb (fun j hj => by
            have hl := hanc j hj
            have hjm := hlm j hl
            obtain ⟨oj, dj, hoj, _, hdj, _⟩ := hfront j hjm
            exact ⟨⟨oj, dj, hoj, hdj, hget j oj dj hjm hl hoj hdj⟩, hR j hjm hl⟩) a w hs1 (hH.step hst1)
          refine wpOp_fin (o := o) (by simpa using ho) hg hL ?_
          rintro a' w' ⟨x, post, hRx, hs2, hH2⟩
          obtain ⟨cur', hcur', hpc⟩ := hAB post
          have hp2 : (post ++ (Ωc ++ A)).Perm ((List.range m).flatMap cur' ++ Ωc) := by
            refine List.Perm.trans ?_ (hpc.symm.append_right Ωc)
            rw [List.append_assoc]
            exact List.perm_append_comm.append_left _
          obtain ⟨hs3, hst3⟩ := hs2.perm hp2
          have hmask : ∀ j, j < m → (Ld listed j ∨ j = i) → mask l.toArray m j (fun k => if k = i then x else X k) = mask l.toArray m j X := by
            intro j hj hlj
            funext k
            unfold mask
            split
            · rename_i hk
              have hki : k ≠ i := by
                intro e
                subst e
                -- k = i is an ancestor of j; j is listed (or is i itself)
                have hlk : Ld listed k := by
                  rcases hlj with h1 | h1
                  · exact hc.anc m j k hk (fun o' ho' e he hb => hc j o' ho' h1 e he hb)
                  · subst h1; exact hanc _ hk
                exact hnl hlk
              simp [hki]
            · rfl
          refine ih (listed.setIfInBounds i true) a' w' (fun k => if k = i then x else X k) (fun j => if j = i then post else posts j) cur' (by simpa using hsz) (hc.set (o := o) (by simpa using ho) (by omega) hall) (fun j hj => ?_) ?_ (fun j hj hlj => ?_) (hcur' (by omega)) hs3 ⟨(d, x) :: σ', hH2.step hst3, ?_, fun j oj dj hj hlj hoj hdj => ?_⟩
          · rcases (Ld.set (by omega)).1 hj with rfl | h1
            · exact him
            · exact hlm j h1
          · exact filter_set (by omega) (by omega) hnl hfu
          · rcases (Ld.set (by omega)).1 hlj with rfl | h1
            · rw [hmask j hj (.inr rfl)]; simpa using hRx
            · have hne : j ≠ i := fun e => hnl (e ▸ h1)
              rw [hmask j hj (.inl h1)]
              simpa [hne] using hR j hj h1
          · exact hsb.put hσd
          · by_cases hji : j = i
            · subst hji
              rw [ho] at hoj
              simp at hoj
              subst hoj
              rw [hd] at hdj
              simp at hdj
              subst hdj
              simp [List.lookup]
            · have hne := hdd j oj dj hj hji hoj hdj
              have hb : (dj == d) = false := by simpa using hne
              simp only [List.lookup, hb, hji, if_false]
              rcases (Ld.set (by omega)).1 hlj with h1 | h1
              · exact absurd h1 hji
              · exact hget j oj dj hj h1 hoj hdj
  have hL0 : ∀ i, ¬ Ld (Array.replicate l.length false) i := by
    intro i h
    unfold Ld at h
    rw [Array.getD_eq_getD_getElem?, Array.getElem?_replicate] at h
    split at h <;> simp at h
  have hcur0 : CurC m (Array.replicate l.length false) c Pre (fun _ => []) Pre := ⟨fun i _ _ => rfl, fun i _ h => absurd h (hL0 i), fun i _ k _ h => absurd h (hL0 k)⟩
  refine key l.length (Array.replicate l.length false) a w.drew (fun _ => .t []) (fun _ => []) Pre (by simp) (fun i o _ h => absurd h (hL0 i)) (fun i h => absurd h (hL0 i)) ?_ (fun i _ h => absurd h (hL0 i)) hcur0 hs ⟨σ, ha, hsub, fun i _ _ _ h => absurd h (hL0 i)⟩
  · rw [List.filter_eq_self.2]
    · simp
    · intro i hi
      have : ¬ (Array.replicate l.length false).getD i false = true := hL0 i
      simpa using this

end

/-- One operation by itself; what it uses up stands ahead. -/
def FlowOpC (P : Program) (C : Ctx) (n : Nat) (l : List Oper) (m : Nat) (σb : Env) (Ωc : List Ob) (Pre : Nat → List Ob) (c : Nat → Option Nat) (R : Nat → AV → (Nat → AV) → List Ob → Prop) (i : Nat) (o : Oper) : Prop :=
  ∀ (X : Nat → AV) (posts : Nat → List Ob) (σ' : Env) (Ωf : List Ob), Sub σ' σb →
    (∀ j, ancB l.toArray m i j = true → σ'.lookup (dstAt l j) = some (X j) ∧ R j (X j) (mask l.toArray m j X) (posts j)) →
    L P C n l.toArray (Fin C n (fun x post => R i x (mask l.toArray m i X) post) (dstAt l i) σ' (Ωc ++ Ωf)) [o] σ' (useC c posts i ++ (Pre i ++ (Ωc ++ Ωf)))

def FlowOpsC (P : Program) (C : Ctx) (n : Nat) (l : List Oper) (m : Nat) (σb : Env) (Ωc : List Ob) (Pre : Nat → List Ob) (c : Nat → Option Nat) (R : Nat → AV → (Nat → AV) → List Ob → Prop) : Nat → List Oper → Prop
  | _, [] => True
  | i, o :: r => FlowOpC P C n l m σb Ωc Pre c R i o ∧ FlowOpsC P C n l m σb Ωc Pre c R (i + 1) r

theorem FlowOpsC.get {P : Program} {C : Ctx} {n : Nat} {l : List Oper} {m : Nat} {σb : Env} {Ωc : List Ob} {Pre : Nat → List Ob} {c : Nat → Option Nat} {R : Nat → AV → (Nat → AV) → List Ob → Prop} : ∀ {r : List Oper} {k : Nat}, FlowOpsC P C n l m σb Ωc Pre c R k r → ∀ (i : Nat) (o : Oper), r[i]? = some o → FlowOpC P C n l m σb Ωc Pre c R (k + i) o
  | [], _, _, i, o, h => by simp at h
  | a :: r, k, ⟨h1, _⟩, 0, o, h => by simp at h; subst h; exact h1
  | a :: r, k, ⟨_, h2⟩, i + 1, o, h => by
    have := h2.get i o (by simpa using h)
    rwa [show k + 1 + i = k + (i + 1) by omega] at this

/-- Who uses up what: a list, checked. -/
def useOk (ops : Array Oper) (m : Nat) (cl : List (Option Nat)) : Bool :=
  (List.range m).all fun i => match cl.getD i none with
    | some j => Nat.blt j m && ancB ops m i j && (List.range m).all fun k => Nat.beq k i || (match cl.getD k none with
      | some j' => !Nat.beq j' j
      | none => true)
    | none => true

theorem useOk_spec {ops : Array Oper} {m : Nat} {cl : List (Option Nat)} (h : useOk ops m cl = true) :
    (∀ i j, i < m → cl.getD i none = some j → j < m ∧ ancB ops m i j = true) ∧ ∀ i i' j, i < m → i' < m → cl.getD i none = some j → cl.getD i' none = some j → i = i' := by
  unfold useOk at h
  rw [List.all_eq_true] at h
  have h1 : ∀ i j, i < m → cl.getD i none = some j → (j < m ∧ ancB ops m i j = true) ∧ ∀ k, k < m → k = i ∨ cl.getD k none ≠ some j := by
    intro i j hi hj
    have := h i (List.mem_range.2 hi)
    simp only [hj, Bool.and_eq_true] at this
    obtain ⟨⟨h2, h3⟩, h4⟩ := this
    refine ⟨⟨by simpa using h2, h3⟩, fun k hk => ?_⟩
    rw [List.all_eq_true] at h4
    have h5 := h4 k (List.mem_range.2 hk)
    rw [Bool.or_eq_true] at h5
    rcases h5 with h5 | h5
    · exact .inl (by simpa using h5)
    · right
      intro e
      rw [e] at h5
      simp at h5
  refine ⟨fun i j hi hj => (h1 i j hi hj).1, fun i i' j hi hi' hj hj' => ?_⟩
  rcases (h1 i j hi hj).2 i' hi' with h2 | h2
  · exact h2.symm
  · exact absurd hj' h2

theorem T.drawC {P : Program} {C : Ctx} {n : Nat} {Q : Pst} {σ : Env} {Ω : List Ob} {id : Nat} {l : List Oper} (m : Nat) (σb : Env) (Ωc : List Ob) (Pre : Nat → List Ob) (cl : List (Option Nat)) (R : Nat → AV → (Nat → AV) → List Ob → Prop) (hm : P.follows .mixedOrders = true) (hml : Nat.ble m l.length = true) (hf : frontOk l.toArray m σb = true) (ht : tailOk l.toArray m = true) (hsub : Sub σ σb)
    (hΩ : ((List.range m).flatMap Pre ++ Ωc).Perm Ω) (hu : useOk l.toArray m cl = true)
    (hops : FlowOpsC P C n l m σb Ωc Pre (fun i => cl.getD i none) R 0 (l.take m))
    (hrest : ∀ (X : Nat → AV) (posts : Nat → List Ob), (∀ i, Nat.blt i m = true → R i (X i) (mask l.toArray m i X) (posts i)) → L P C n l.toArray Q (l.drop m) (frontEnv (l.take m) 0 X ++ σb) ((List.range m).flatMap (leftC m (fun i => cl.getD i none) posts) ++ Ωc)) :
    T P C n Q (.region id l.toArray true) σ Ω := by
  obtain ⟨hu1, hu2⟩ := useOk_spec hu
  refine T.flowC m σb Ωc Pre (fun i => cl.getD i none) R hm hml hf ht hsub hΩ hu1 hu2 (fun i hi o d X posts σ' Ωf ho hd hs hA => ?_) fun X posts h => hrest X posts fun i hi => h i (bltLt hi)
  have hi' := bltLt hi
  have h1 := hops.get i o (by rw [List.getElem?_take, if_pos hi']; exact ho)
  rw [Nat.zero_add] at h1
  have hdd : dstAt l i = d := by simp [dstAt, ho, hd]
  have h2 := h1 X posts σ' Ωf hs (fun j hj => by
    obtain ⟨⟨o', d', h3, h4, h5⟩, h6⟩ := hA j hj
    refine ⟨?_, h6⟩
    have : dstAt l j = d' := by simp [dstAt, h3, h4]
    rw [this]; exact h5)
  rw [hdd] at h2
  exact h2

theorem evs1t {σ : Env} {i : Nat} {s : SV} (h : σ.lookup i = some (.v s)) : evs σ [.tmp i] = some [s] := evs1 (x := .tmp i) h
theorem evs2t {σ : Env} {i j : Nat} {s t : SV} (h : σ.lookup i = some (.v s)) (h2 : σ.lookup j = some (.v t)) : evs σ [.tmp i, .tmp j] = some [s, t] := evs2 (x := .tmp i) (y := .tmp j) h h2
theorem evs3t {σ : Env} {i j k : Nat} {s t u : SV} (h : σ.lookup i = some (.v s)) (h2 : σ.lookup j = some (.v t)) (h3 : σ.lookup k = some (.v u)) : evs σ [.tmp i, .tmp j, .tmp k] = some [s, t, u] := evs3 (x := .tmp i) (y := .tmp j) (z := .tmp k) h h2 h3
theorem evs1c {σ : Env} {i : Nat} {s : SV} {c : Operand} {u : SV} (h : σ.lookup i = some (.v s)) (h2 : ev σ c = some (.v u)) : evs σ [.tmp i, c] = some [s, u] := evs2 (x := .tmp i) h h2

end Go.Q
