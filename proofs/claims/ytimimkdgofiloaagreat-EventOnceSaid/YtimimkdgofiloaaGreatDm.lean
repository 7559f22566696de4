/- A listener is called at most once at a node, and along the path alone: the plain law. No program in sight. -/
import Derived.Test.YtimimkdgofiloaaGreatS32
import Derived.Test.YtimimkdgofiloaaGreatDl
namespace Go.Proofs.YtimimkdgofiloaaGreat
open Go Go.Q
mutual
/-- The way to the first node of a number that isn't deaf. -/
def pathT (x : Int) : Tr → Option (List Int)
  | .mk id kind _ _ cl at' _ kids => if deafB kind cl at' then none else if id = x then some [id] else (kidsPathT x kids).map (id :: ·)
def kidsPathT (x : Int) : List Tr → Option (List Int)
  | [] => none
  | t :: l => match pathT x t with
    | some p => some p
    | none => kidsPathT x l
end
mutual
theorem hears_path (x : Int) : ∀ (t : Tr) (way : List Int), hearsM (visP x) t way none = match pathT x t with
    | none => (true, none)
    | some p => (false, some (way ++ p))
  | .mk id kind tag text cl at' st kids, way => by
    rw [hearsM, pathT]
    by_cases hd : deafB kind cl at' = true
    · rw [if_pos hd, if_pos hd]
    · rw [if_neg hd, if_neg hd]
      by_cases hx : id = x
      · simp [visP, idOf, hx]
      · have h := kids_path x kids (way ++ [id])
        simp only [visP, idOf, hx, if_false, decide_false, Bool.not_false, if_true]
        rw [h]
        cases kidsPathT x kids <;> simp
theorem kids_path (x : Int) : ∀ (l : List Tr) (way : List Int), kidsHears (visP x) l way none = match kidsPathT x l with
    | none => (true, none)
    | some p => (false, some (way ++ p))
  | [], way => rfl
  | t :: l, way => by
    rw [kidsHears, hears_path x t way, kidsPathT]
    cases pathT x t with
    | none => simp only [if_true]; exact kids_path x l way
    | some p => simp
end
theorem pathM_eq (t : Tr) (x : Int) : pathM t x = (pathT x t).getD [] := by
  unfold pathM
  rw [hears_path x t []]
  cases pathT x t <;> simp
mutual
theorem path_rise (x : Int) : ∀ (t : Tr) (n : Int) (p : List Int), t.seq n → pathT x t = some p → Rise p n (n + (t.size : Int)) ∧ p.length ≤ t.size
  | .mk id kind tag text cl at' st kids, n, p, ⟨h1, h2⟩, h => by
    subst h1
    rw [pathT] at h
    split at h
    · cases h
    · split at h
      · simp only [Option.some.injEq] at h; subst h
        exact ⟨(Rise.nil (id + 1) _).cons (by simp only [Tr.size]; omega), by simp [Tr.size]⟩
      · obtain ⟨q, hq, rfl⟩ := Option.map_eq_some_iff.1 h
        obtain ⟨h3, h4⟩ := kidsPath_rise x kids (id + 1) q h2 hq
        have hs : (id + ((Tr.mk id kind tag text cl at' st kids).size : Int)) = id + 1 + (kidsSize kids : Int) := by simp only [Tr.size]; omega
        rw [hs]
        exact ⟨h3.cons (by omega), by simp only [List.length_cons, Tr.size]; omega⟩
theorem kidsPath_rise (x : Int) : ∀ (l : List Tr) (n : Int) (p : List Int), kidsSeq l n → kidsPathT x l = some p → Rise p n (n + (kidsSize l : Int)) ∧ p.length ≤ kidsSize l
  | [], n, p, _, h => by cases h
  | t :: l, n, p, ⟨h1, h2⟩, h => by
    rw [kidsPathT] at h
    simp only [kidsSize]
    split at h
    · rename_i q hq
      simp only [Option.some.injEq] at h; subst h
      obtain ⟨a, b⟩ := path_rise x t n q h1 hq
      exact ⟨a.mono (Int.le_refl _) (by omega), by omega⟩
    · obtain ⟨a, b⟩ := kidsPath_rise x l _ p h2 h
      exact ⟨a.mono (by omega) (by omega), by omega⟩
end
theorem pathM_nodup (t : Tr) (x : Int) {n : Int} (h : t.seq n) : (pathM t x).Nodup ∧ (pathM t x).length ≤ t.size := by
  rw [pathM_eq]
  cases hp : pathT x t with
  | none => exact ⟨List.nodup_nil, Nat.zero_le _⟩
  | some p => have := path_rise x t n p h hp; exact ⟨this.1.nodup, this.2⟩
mutual
theorem path_len (x : Int) : ∀ (t : Tr) (p : List Int), pathT x t = some p → p.length ≤ t.size
  | .mk id kind tag text cl at' st kids, p, h => by
    rw [pathT] at h
    split at h
    · cases h
    · split at h
      · simp only [Option.some.injEq] at h; subst h; simp [Tr.size]
      · obtain ⟨q, hq, rfl⟩ := Option.map_eq_some_iff.1 h
        have := kidsPath_len x kids q hq
        simp only [List.length_cons, Tr.size]; omega
theorem kidsPath_len (x : Int) : ∀ (l : List Tr) (p : List Int), kidsPathT x l = some p → p.length ≤ kidsSize l
  | [], p, h => by cases h
  | t :: l, p, h => by
    rw [kidsPathT] at h
    simp only [kidsSize]
    split at h
    · rename_i q hq
      simp only [Option.some.injEq] at h; subst h
      have := path_len x t q hq; omega
    · have := kidsPath_len x l p h; omega
end
theorem pathM_len (t : Tr) (x : Int) : (pathM t x).length ≤ t.size := by
  rw [pathM_eq]
  cases hp : pathT x t with
  | none => exact Nat.zero_le _
  | some p => exact path_len x t p hp

/-- How often listener i was called at a node. -/
def cntC (got : List (Int × Int)) (i a : Int) : Nat := got.countP fun c => c.1 == i && c.2 == a
theorem cntC_snoc (got : List (Int × Int)) (c : Int × Int) (i a : Int) : cntC (got ++ [c]) i a = cntC got i a + if (c.1 == i && c.2 == a) = true then 1 else 0 := by
  unfold cntC; rw [List.countP_append, List.countP_singleton]
/-- Is listener j called at a node, on a way? -/
def hitB (ls : List LisV) (fits : List (List Int)) (c : Bool) (j : Nat) (id : Int) : Bool := ((ls.getD j ([], false, false)).2.1 == c) && (fits.getD j []).any (fun y => decide (y = id))
theorem atM_cnt (ls : List LisV) (fits : List (List Int)) (id : Int) (c : Bool) (s : RoundV) (j : Nat) (a : Int) : ∀ k, cntC (atM ls fits id c k s).1 j a = cntC s.1 j a + if j < k ∧ a = id ∧ hitB ls fits c j id = true then 1 else 0
  | 0 => by simp [atM]
  | k + 1 => by
    have ih := atM_cnt ls fits id c s j a k
    unfold atM atStep
    by_cases hk : hitB ls fits c k id = true
    · rw [show (((ls.getD k ([], false, false)).2.1 == c) && (fits.getD k []).any fun y => decide (y = id)) = true from hk, if_pos rfl]
      simp only
      rw [cntC_snoc, ih]
      by_cases hjk : j = k
      · subst hjk
        by_cases ha : a = id
        · subst ha; simp [hk]
        · have : (id == a) = false := by simpa using fun e => ha e.symm
          simp [ha, this]
      · have hne : ((k : Int) == (j : Int)) = false := by simp; omega
        simp only [hne, Bool.false_and, Bool.false_eq_true, if_false, Nat.add_zero]
        have : (j < k + 1 ∧ a = id ∧ hitB ls fits c j id = true) ↔ (j < k ∧ a = id ∧ hitB ls fits c j id = true) := by constructor <;> (rintro ⟨h1, h2⟩; exact ⟨by omega, h2⟩)
        simp only [this]
    · have hk' : hitB ls fits c k id = false := by simpa using hk
      rw [show (((ls.getD k ([], false, false)).2.1 == c) && (fits.getD k []).any fun y => decide (y = id)) = false from hk']
      simp only [Bool.false_eq_true, if_false]
      rw [ih]
      by_cases hjk : j = k
      · subst hjk; simp [hk']
      · have : (j < k + 1 ∧ a = id ∧ hitB ls fits c j id = true) ↔ (j < k ∧ a = id ∧ hitB ls fits c j id = true) := by constructor <;> (rintro ⟨h1, h2⟩; exact ⟨by omega, h2⟩)
        simp only [this]
theorem atM_calm (ls : List LisV) (fits : List (List Int)) (id : Int) (c : Bool) (s : RoundV) (h : ∀ e ∈ ls, e.2.2 = false) (hs : s.2 = false) : ∀ k, k ≤ ls.length → (atM ls fits id c k s).2 = false
  | 0, _ => hs
  | k + 1, hk => by
    have ih := atM_calm ls fits id c s h hs k (by omega)
    have he : ls.getD k ([], false, false) = ls[k] := by rw [List.getD_eq_getElem?_getD, List.getElem?_eq_getElem (by omega)]; rfl
    unfold atM atStep
    rw [he]
    split
    · simp only [ih, Bool.false_or]; exact h _ (List.getElem_mem _)
    · exact ih
theorem seqM_calm (ls : List LisV) (fits : List (List Int)) (c : Bool) (h : ∀ e ∈ ls, e.2.2 = false) : ∀ (l : List Int) (s : RoundV), s.2 = false → (seqM ls fits c l s).2 = false
  | [], _, hs => hs
  | id :: l, s, hs => by
    rw [seqM]
    refine seqM_calm ls fits c h l _ ?_
    rw [hs]; exact atM_calm ls fits id c s h hs _ (Nat.le_refl _)
theorem seqM_over (ls : List LisV) (fits : List (List Int)) (c : Bool) : ∀ (l : List Int) (s : RoundV), s.2 = true → seqM ls fits c l s = s
  | [], _, _ => rfl
  | id :: l, s, hs => by rw [seqM, hs, if_pos rfl]; exact seqM_over ls fits c l s hs
/-- On one way: at most once, and only at what is there and fits; and at all of them, if it isn't over. -/
theorem seqM_cnt (ls : List LisV) (fits : List (List Int)) (c : Bool) {j : Nat} (hj : j < ls.length) (a : Int) : ∀ (l : List Int) (s : RoundV), l.Nodup → ∃ e, cntC (seqM ls fits c l s).1 j a = cntC s.1 j a + e ∧ e ≤ (if a ∈ l ∧ hitB ls fits c j a = true then 1 else 0) ∧
    ((seqM ls fits c l s).2 = false → e = if a ∈ l ∧ hitB ls fits c j a = true then 1 else 0)
  | [], s, _ => ⟨0, by simp [seqM], by simp, by simp⟩
  | id :: l, s, hn => by
    obtain ⟨hid, hl⟩ := List.nodup_cons.1 hn
    rw [seqM]
    by_cases hs : s.2 = true
    · rw [if_pos hs, seqM_over ls fits c l s hs]
      exact ⟨0, rfl, Nat.zero_le _, fun h => by rw [hs] at h; cases h⟩
    · rw [if_neg hs]
      obtain ⟨e, h1, h2, h3⟩ := seqM_cnt ls fits c hj a l (atM ls fits id c ls.length s) hl
      have hat := atM_cnt ls fits id c s j a ls.length
      rw [hat] at h1
      refine ⟨(if j < ls.length ∧ a = id ∧ hitB ls fits c j id = true then 1 else 0) + e, by omega, ?_, fun h => ?_⟩
      · by_cases ha : a = id
        · subst ha
          have : ¬ a ∈ l := hid
          simp only [this, false_and, if_false] at h2
          have he : e = 0 := by omega
          subst he
          by_cases hh : hitB ls fits c j a = true
          · simp [hh, hj]
          · simp [hh]
        · have e1 : (a ∈ id :: l ∧ hitB ls fits c j a = true) ↔ (a ∈ l ∧ hitB ls fits c j a = true) := by simp [ha]
          simp only [ha, false_and, and_false, if_false, Nat.zero_add, e1]
          exact h2
      · have h3' := h3 h
        by_cases ha : a = id
        · subst ha
          have : ¬ a ∈ l := hid
          simp only [this, false_and, if_false] at h3'
          subst h3'
          by_cases hh : hitB ls fits c j a = true
          · simp [hh, hj]
          · simp [hh]
        · have e1 : (a ∈ id :: l ∧ hitB ls fits c j a = true) ↔ (a ∈ l ∧ hitB ls fits c j a = true) := by simp [ha]
          simp only [ha, false_and, and_false, if_false, Nat.zero_add, e1]
          exact h3'
theorem hit_one (ls : List LisV) (fits : List (List Int)) (j : Nat) (a : Int) : (hitB ls fits true j a = true ∧ hitB ls fits false j a = false) ∨ (hitB ls fits false j a = true ∧ hitB ls fits true j a = false) ∨ (hitB ls fits true j a = false ∧ hitB ls fits false j a = false) := by
  unfold hitB
  cases (ls.getD j ([], false, false)).2.1 <;> cases (fits.getD j []).any (fun y => decide (y = a)) <;> simp
/-- What a listener meets at a node. -/
theorem disp_cnt (ls : List LisV) (t : Tr) (x : Int) (ht : t.seq 1) {j : Nat} (hj : j < ls.length) (a : Int) :
    cntC (dispM ls t x).1 j a ≤ 1 ∧ (cntC (dispM ls t x).1 j a = 1 → a ∈ pathM t x) ∧ (a ∈ pathM t x → a ∈ allM ls[j].1 t → (∀ e ∈ ls, e.2.2 = false) → cntC (dispM ls t x).1 j a = 1) := by
  have hnd := (pathM_nodup t x ht).1
  unfold dispM
  obtain ⟨e1, h1, h2, h3⟩ := seqM_cnt ls (allF ls t) true hj a (pathM t x) ([], false) hnd
  obtain ⟨e2, h4, h5, h6⟩ := seqM_cnt ls (allF ls t) false hj a (pathM t x).reverse (seqM ls (allF ls t) true (pathM t x) ([], false)) (List.pairwise_reverse.2 (hnd.imp fun h => Ne.symm h))
  have h0 : cntC ([] : List (Int × Int)) j a = 0 := rfl
  rw [show (([], false) : RoundV).1 = [] from rfl, h0, Nat.zero_add] at h1
  rw [h1] at h4
  simp only [List.mem_reverse] at h5 h6
  rw [h4]
  have hone := hit_one ls (allF ls t) j a
  refine ⟨?_, fun h => ?_, fun ha hf hc => ?_⟩
  · rcases hone with ⟨q1, q2⟩ | ⟨q1, q2⟩ | ⟨q1, q2⟩ <;> simp only [q1, q2, and_true, and_false, Bool.false_eq_true, if_false] at h2 h5 <;> (try split at h2) <;> (try split at h5) <;> omega
  · by_cases ha : a ∈ pathM t x
    · exact ha
    · simp only [ha, false_and, if_false] at h2 h5; omega
  · have hcalm1 := seqM_calm ls (allF ls t) true hc (pathM t x) ([], false) rfl
    have hcalm2 := seqM_calm ls (allF ls t) false hc (pathM t x).reverse _ hcalm1
    have h3 := h3 hcalm1
    have h6 := h6 hcalm2
    have hfit : ((allF ls t).getD j []).any (fun y => decide (y = a)) = true := by
      have : (allF ls t).getD j [] = allM ls[j].1 t := by unfold allF; rw [List.getD_eq_getElem?_getD, List.getElem?_map, List.getElem?_eq_getElem hj]; rfl
      rw [this, List.any_eq_true]
      exact ⟨a, hf, by simp⟩
    have : (hitB ls (allF ls t) true j a = true) ∨ (hitB ls (allF ls t) false j a = true) := by
      unfold hitB; rw [hfit]
      cases (ls.getD j ([], false, false)).2.1 <;> simp
    rcases hone with ⟨q1, q2⟩ | ⟨q1, q2⟩ | ⟨q1, q2⟩
    · simp only [ha, q1, q2, and_true, if_true, and_false, Bool.false_eq_true, if_false] at h3 h6; omega
    · simp only [ha, q1, q2, and_true, if_true, and_false, Bool.false_eq_true, if_false] at h3 h6; omega
    · rw [q1, q2] at this; simp at this

/-- All calls are of listeners that there are, at nodes that fit. -/
def CallsOk (ls : List LisV) (fits : List (List Int)) (got : List (Int × Int)) : Prop := ∀ c ∈ got, ∃ j, j < ls.length ∧ c.1 = (j : Int) ∧ c.2 ∈ fits.getD j []
theorem atM_ok (ls : List LisV) (fits : List (List Int)) (id : Int) (c : Bool) (s : RoundV) (h : CallsOk ls fits s.1) : ∀ k, k ≤ ls.length → CallsOk ls fits (atM ls fits id c k s).1
  | 0, _ => h
  | k + 1, hk => by
    have ih := atM_ok ls fits id c s h k (by omega)
    unfold atM atStep
    split
    · rename_i hh
      simp only [Bool.and_eq_true, List.any_eq_true] at hh
      obtain ⟨_, y, hy, he⟩ := hh
      obtain rfl : y = id := of_decide_eq_true he
      intro q hq
      rcases List.mem_append.1 hq with h1 | h1
      · exact ih q h1
      · obtain rfl := List.mem_singleton.1 h1
        exact ⟨k, by omega, rfl, hy⟩
    · exact ih
theorem seqM_ok (ls : List LisV) (fits : List (List Int)) (c : Bool) : ∀ (l : List Int) (s : RoundV), CallsOk ls fits s.1 → CallsOk ls fits (seqM ls fits c l s).1
  | [], _, h => h
  | id :: l, s, h => by
    rw [seqM]
    refine seqM_ok ls fits c l _ ?_
    split
    · exact h
    · exact atM_ok ls fits id c s h _ (Nat.le_refl _)
theorem disp_ok (ls : List LisV) (t : Tr) (x : Int) : CallsOk ls (allF ls t) (dispM ls t x).1 := seqM_ok _ _ _ _ _ (seqM_ok _ _ _ _ _ (by intro c hc; cases hc))
def sumA (got : List (Int × Int)) (j : Nat) (l : List Int) : Nat := (l.map (cntC got j)).sum
def sumB (got : List (Int × Int)) (fits : List (List Int)) : Nat → Nat
  | 0 => 0
  | k + 1 => sumB got fits k + sumA got k (fits.getD k [])
theorem sumA_take (got : List (Int × Int)) (j : Nat) {l : List Int} {k : Nat} (h : k < l.length) : sumA got j (l.take (k + 1)) = sumA got j (l.take k) + cntC got j l[k] := by
  unfold sumA; rw [List.take_add_one, List.getElem?_eq_getElem h, List.map_append, List.sum_append]; simp only [Option.toList, List.map_cons, List.map_nil, List.sum_cons, List.sum_nil, Nat.add_zero]
theorem sumA_snoc (got : List (Int × Int)) (c : Int × Int) (j : Nat) : ∀ l : List Int, l.Nodup → sumA (got ++ [c]) j l = sumA got j l + if c.1 = (j : Int) ∧ c.2 ∈ l then 1 else 0
  | [], _ => by simp [sumA]
  | a :: l, hn => by
    obtain ⟨ha, hl⟩ := List.nodup_cons.1 hn
    have ih := sumA_snoc got c j l hl
    unfold sumA at ih ⊢
    simp only [List.map_cons, List.sum_cons]
    rw [ih, cntC_snoc]
    by_cases h1 : c.1 = (j : Int)
    · by_cases h2 : c.2 = a
      · have : ¬ c.2 ∈ l := by rw [h2]; exact ha
        simp [h1, h2, ha, Nat.add_comm, Nat.add_left_comm]
      · simp [h1, h2]; split <;> omega
    · simp [h1]
theorem sumB_snoc (got : List (Int × Int)) (c : Int × Int) (fits : List (List Int)) (hf : ∀ k, (fits.getD k []).Nodup) : ∀ n, sumB (got ++ [c]) fits n = sumB got fits n + if ∃ j, j < n ∧ c.1 = (j : Int) ∧ c.2 ∈ fits.getD j [] then 1 else 0
  | 0 => by simp [sumB]
  | n + 1 => by
    have ih := sumB_snoc got c fits hf n
    unfold sumB
    rw [ih, sumA_snoc _ _ _ _ (hf n)]
    by_cases hn : c.1 = (n : Int) ∧ c.2 ∈ fits.getD n []
    · have h1 : ¬ ∃ j, j < n ∧ c.1 = (j : Int) ∧ c.2 ∈ fits.getD j [] := by rintro ⟨j, hj, h, _⟩; omega
      have h2 : ∃ j, j < n + 1 ∧ c.1 = (j : Int) ∧ c.2 ∈ fits.getD j [] := ⟨n, by omega, hn⟩
      rw [if_pos hn, if_neg h1, if_pos h2]; omega
    · rw [if_neg hn]
      by_cases h1 : ∃ j, j < n ∧ c.1 = (j : Int) ∧ c.2 ∈ fits.getD j []
      · obtain ⟨j, hj, h⟩ := h1
        rw [if_pos ⟨j, hj, h⟩, if_pos ⟨j, by omega, h⟩]; omega
      · have h2 : ¬ ∃ j, j < n + 1 ∧ c.1 = (j : Int) ∧ c.2 ∈ fits.getD j [] := by
          rintro ⟨j, hj, h⟩
          by_cases e : j = n
          · subst e; exact hn h
          · exact h1 ⟨j, by omega, h⟩
        rw [if_neg h1, if_neg h2]; omega
theorem sumB_all (ls : List LisV) (fits : List (List Int)) (hf : ∀ k, (fits.getD k []).Nodup) : ∀ (n : Nat) (got : List (Int × Int)), got.length = n → CallsOk ls fits got → sumB got fits ls.length = got.length
  | 0, got, hg, _ => by
    obtain rfl := List.eq_nil_of_length_eq_zero hg
    have : ∀ n, sumB [] fits n = 0 := by
      intro n
      induction n with
      | zero => rfl
      | succ n ih =>
        unfold sumB; rw [ih]
        unfold sumA
        have : ((fits.getD n []).map (cntC [] n)) = (fits.getD n []).map fun _ => 0 := rfl
        rw [this]
        induction fits.getD n [] with
        | nil => rfl
        | cons a l ih => simp only [List.map_cons, List.sum_cons, Nat.zero_add]; simpa using ih
    rw [this]; rfl
  | n + 1, got, hg, hok => by
    obtain ⟨g, c, rfl⟩ : ∃ g c, got = g ++ [c] := ⟨got.dropLast, got.getLast (by intro e; rw [e] at hg; simp at hg), (List.dropLast_concat_getLast _).symm⟩
    have hg' : g.length = n := by simpa using hg
    rw [sumB_snoc g c fits hf, sumB_all ls fits hf n g hg' fun q hq => hok q (List.mem_append_left _ hq)]
    have := hok c (by simp)
    rw [if_pos this, List.length_append]; rfl
theorem fits_nodup (ls : List LisV) (t : Tr) (ht : t.seq 1) (k : Nat) : ((allF ls t).getD k []).Nodup := by
  unfold allF
  rw [List.getD_eq_getElem?_getD, List.getElem?_map]
  cases h : ls[k]? with
  | none => exact List.nodup_nil
  | some e => exact (allM_rise e.1 t ht).nodup
theorem disp_sum (ls : List LisV) (t : Tr) (x : Int) (ht : t.seq 1) : sumB (dispM ls t x).1 (allF ls t) ls.length = (dispM ls t x).1.length := sumB_all ls _ (fits_nodup ls t ht) _ _ rfl (disp_ok ls t x)
theorem seqM_len (ls : List LisV) (fits : List (List Int)) (c : Bool) : ∀ (l : List Int) (s : RoundV), (seqM ls fits c l s).1.length ≤ s.1.length + l.length * ls.length
  | [], s => by simp [seqM]
  | id :: l, s => by
    rw [seqM]
    have h1 := seqM_len ls fits c l (if s.2 = true then s else atM ls fits id c ls.length s)
    have h2 := atM_len ls fits id c s ls.length
    have h3 : (l.length + 1) * ls.length = l.length * ls.length + ls.length := Nat.succ_mul _ _
    simp only [List.length_cons]
    split at h1
    · rename_i h; rw [if_pos h]; omega
    · rename_i h; rw [if_neg h]; omega
theorem sumA_le (ls : List LisV) (t : Tr) (x : Int) (ht : t.seq 1) {j : Nat} (hj : j < ls.length) : ∀ l : List Int, sumA (dispM ls t x).1 j l ≤ l.length
  | [] => Nat.le_refl _
  | a :: l => by
    have := (disp_cnt ls t x ht hj a).1
    have ih := sumA_le ls t x ht hj l
    unfold sumA at ih ⊢
    simp only [List.map_cons, List.sum_cons, List.length_cons]; omega
end Go.Proofs.YtimimkdgofiloaaGreat
