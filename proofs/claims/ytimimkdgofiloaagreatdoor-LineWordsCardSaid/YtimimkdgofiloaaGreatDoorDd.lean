/- Names in their order; lists of pairs by their names. No program in sight. -/
import Derived.Test.YtimimkdgofiloaaGreatDoorDa
namespace Go.Proofs.YtimimkdgofiloaaGreatDoor
open Go Go.Q

abbrev bL := Op.bytesLess
theorem bL_irr : ∀ l : List UInt8, bL l l = false
  | [] => rfl
  | a :: l => by simp [Op.bytesLess, bL_irr l, UInt8.lt_irrefl]

theorem bL_trans : ∀ {a b c : List UInt8}, bL a b = true → bL b c = true → bL a c = true
  | _, [], _, h, _ => by simp [Op.bytesLess] at h
  | _, _ :: _, [], _, h => by simp [Op.bytesLess] at h
  | [], _ :: _, _ :: _, _, _ => rfl
  | x :: a, y :: b, z :: c, h1, h2 => by
    simp only [Op.bytesLess, Bool.or_eq_true, Bool.and_eq_true, decide_eq_true_eq, beq_iff_eq] at h1 h2 ⊢
    rcases h1 with h1 | ⟨rfl, h1⟩
    · rcases h2 with h2 | ⟨rfl, h2⟩
      · exact .inl (UInt8.lt_trans h1 h2)
      · exact .inl h1
    · rcases h2 with h2 | ⟨rfl, h2⟩
      · exact .inl h2
      · exact .inr ⟨rfl, bL_trans h1 h2⟩

theorem bL_tri : ∀ {a b : List UInt8}, bL a b = false → a ≠ b → bL b a = true
  | [], [], _, h => absurd rfl h
  | [], _ :: _, h, _ => by simp [Op.bytesLess] at h
  | _ :: _, [], _, _ => rfl
  | x :: a, y :: b, h1, h2 => by
    simp only [Op.bytesLess, Bool.or_eq_false_iff, Bool.and_eq_false_iff, decide_eq_false_iff_not, beq_eq_false_iff_ne] at h1
    simp only [Op.bytesLess, Bool.or_eq_true, Bool.and_eq_true, decide_eq_true_eq, beq_iff_eq]
    by_cases hxy : x = y
    · subst hxy
      have h3 : bL a b = false := h1.2.resolve_left (fun h => h rfl)
      exact .inr ⟨rfl, bL_tri h3 (fun e => h2 (by rw [e]))⟩
    · left
      have hle := UInt8.not_lt.1 h1.1
      rcases UInt8.lt_or_eq_of_le hle with h | h
      · exact h
      · exact absurd h.symm hxy

/-- Is a name ahead of another? -/
def lt (a b : ByteArray) : Bool := bL a.data.toList b.data.toList
theorem bytes_ext {a b : ByteArray} (h : a.data.toList = b.data.toList) : a = b := ByteArray.ext (Array.toList_inj.1 h)
theorem lt_irr (a : ByteArray) : lt a a = false := bL_irr _
theorem lt_trans {a b c : ByteArray} (h1 : lt a b = true) (h2 : lt b c = true) : lt a c = true := bL_trans h1 h2
theorem lt_tri {a b : ByteArray} (h : lt a b = false) (hne : a ≠ b) : lt b a = true := bL_tri h fun e => hne (bytes_ext e)
theorem lt_asymm {a b : ByteArray} (h : lt a b = true) : lt b a = false := by
  cases hb : lt b a
  · rfl
  · have := lt_trans h hb
    rw [lt_irr] at this
    cases this

/-- cmp.Compare of two names. -/
def cmpS (a b : ByteArray) : Int := if lt a b = true then -1 else if a = b then 0 else 1
theorem cmpS_neg (a b : ByteArray) : decide (cmpS a b < 0) = lt a b := by
  unfold cmpS
  cases h : lt a b
  · by_cases h2 : a = b
    · subst h2; simp
    · simp [h2]
  · simp
theorem cmpS_zero (a b : ByteArray) : (cmpS a b == 0) = decide (a = b) := by
  unfold cmpS
  cases h : lt a b
  · by_cases h2 : a = b
    · simp [h2]
    · simp [h2]
  · have hne : ¬ a = b := fun e => by rw [e, lt_irr] at h; cases h
    simp [hne]

variable {β : Type}
/-- Rising names. -/
def Srt (l : List (ByteArray × β)) : Prop := l.Pairwise fun a b => lt a.1 b.1 = true
def placeM (l : List (ByteArray × β)) (n : ByteArray) : Nat := (l.takeWhile fun q => lt q.1 n).length
def isM (l : List (ByteArray × β)) (n : ByteArray) : Bool := decide ((l[placeM l n]?).map (·.1) = some n)
def putM (l : List (ByteArray × β)) (p : ByteArray × β) : List (ByteArray × β) :=
  if isM l p.1 = true then l.set (placeM l p.1) p else l.take (placeM l p.1) ++ p :: l.drop (placeM l p.1)
def ofM (l : List (ByteArray × β)) : List (ByteArray × β) := l.foldl putM []
def getM (l : List (ByteArray × β)) (n : ByteArray) : Option β := (l.find? fun q => decide (q.1 = n)).map (·.2)

theorem placeM_le (l : List (ByteArray × β)) (n : ByteArray) : placeM l n ≤ l.length := (List.takeWhile_sublist _).length_le

theorem takeWhile_len {p : ByteArray × β → Bool} : ∀ {l : List (ByteArray × β)} {i : Nat}, i ≤ l.length → (∀ k (h : k < l.length), k < i → p l[k] = true) → (∀ h : i < l.length, p l[i] = false) → (l.takeWhile p).length = i
  | [], i, h, _, _ => by simp at h; simp [h]
  | q :: l, 0, _, _, h2 => by
    have := h2 (by simp)
    rw [List.takeWhile_cons_of_neg (by simpa using this)]; rfl
  | q :: l, i + 1, h, h1, h2 => by
    have h0 := h1 0 (by simp) (by omega)
    rw [List.takeWhile_cons_of_pos (by simpa using h0), List.length_cons, takeWhile_len (by simpa using h) (fun k hk hki => h1 (k + 1) (by simp; omega) (by omega)) (fun hi => h2 (by simp; omega))]

theorem placeM_eq {l : List (ByteArray × β)} {n : ByteArray} {i : Nat} (h : i ≤ l.length) (h1 : ∀ k (hk : k < l.length), k < i → lt l[k].1 n = true) (h2 : ∀ h : i < l.length, lt l[i].1 n = false) : placeM l n = i :=
  takeWhile_len h h1 h2

theorem Srt.lt {l : List (ByteArray × β)} (h : Srt l) {i j : Nat} (hj : j < l.length) (hij : i < j) : lt (l[i]'(by omega)).1 l[j].1 = true :=
  List.pairwise_iff_getElem.1 h i j (by omega) hj hij

theorem takeWhile_all' {p : ByteArray × β → Bool} {l : List (ByteArray × β)} : ∀ x ∈ l.takeWhile p, p x = true := by
  intro x hx
  induction l with
  | nil => simp at hx
  | cons a l ih =>
    by_cases h : p a = true
    · rw [List.takeWhile_cons_of_pos h] at hx
      rcases List.mem_cons.1 hx with rfl | hx
      · exact h
      · exact ih hx
    · rw [List.takeWhile_cons_of_neg h] at hx
      simp at hx

theorem placeM_take {l : List (ByteArray × β)} {n : ByteArray} : l.take (placeM l n) = l.takeWhile fun q => lt q.1 n :=
  (List.prefix_iff_eq_take.1 (List.takeWhile_prefix _)).symm

theorem placeM_drop {l : List (ByteArray × β)} {n : ByteArray} : l.drop (placeM l n) = l.dropWhile fun q => lt q.1 n := by
  have h1 := List.takeWhile_append_dropWhile (p := fun q : ByteArray × β => Go.Proofs.YtimimkdgofiloaaGreatDoor.lt q.1 n) (l := l)
  have h2 := List.take_append_drop (placeM l n) l
  rw [placeM_take] at h2
  exact List.append_cancel_left (h2.trans h1.symm)

theorem putM_srt {l : List (ByteArray × β)} {p : ByteArray × β} (h : Srt l) : Srt (putM l p) := by
  have hsplit : l = l.take (placeM l p.1) ++ l.drop (placeM l p.1) := (List.take_append_drop _ _).symm
  have hlow : ∀ x ∈ l.take (placeM l p.1), lt x.1 p.1 = true := by
    rw [placeM_take]; exact fun x hx => takeWhile_all' x hx
  have hP := h
  unfold Srt at hP
  rw [hsplit, List.pairwise_append] at hP
  obtain ⟨hP1, hP2, hP3⟩ := hP
  unfold putM
  split
  · rename_i his
    have hi : (l[placeM l p.1]?).map (·.1) = some p.1 := of_decide_eq_true his
    obtain ⟨q, hq, hqp⟩ := Option.map_eq_some_iff.1 hi
    have hlt := (List.getElem?_eq_some_iff.1 hq).1
    have hget := (List.getElem?_eq_some_iff.1 hq).2
    have hd : l.drop (placeM l p.1) = q :: l.drop (placeM l p.1 + 1) := by rw [List.drop_eq_getElem_cons hlt, hget]
    rw [List.set_eq_take_append_cons_drop, if_pos hlt]
    rw [hd] at hP2 hP3
    unfold Srt
    rw [List.pairwise_append, List.pairwise_cons]
    rw [List.pairwise_cons] at hP2
    refine ⟨hP1, ⟨fun x hx => by rw [← hqp]; exact hP2.1 x hx, hP2.2⟩, fun a ha b hb => ?_⟩
    rcases List.mem_cons.1 hb with rfl | hb
    · exact hlow a ha
    · exact hP3 a ha b (List.mem_cons_of_mem _ hb)
  · rename_i his
    unfold Srt
    rw [List.pairwise_append, List.pairwise_cons]
    have hhigh : ∀ x ∈ l.drop (placeM l p.1), lt p.1 x.1 = true := by
      cases hd : l.drop (placeM l p.1) with
      | nil => intro x hx; simp at hx
      | cons q r =>
        have hlt : placeM l p.1 < l.length := by
          rcases Nat.lt_or_ge (placeM l p.1) l.length with h1 | h1
          · exact h1
          · rw [List.drop_eq_nil_of_le h1] at hd; cases hd
        have hq : l[placeM l p.1]? = some q := by
          have := congrArg (fun z => z[0]?) hd
          simpa using this
        have hqn : lt q.1 p.1 = false := by
          have hdw := hd
          rw [placeM_drop] at hdw
          have := List.head?_dropWhile_not (p := fun q : ByteArray × β => Go.Proofs.YtimimkdgofiloaaGreatDoor.lt q.1 p.1) (l := l)
          rw [hdw] at this
          simpa using this
        have hqne : q.1 ≠ p.1 := by
          intro e
          apply his
          unfold isM
          rw [hq]; simp [e]
        have hpq : lt p.1 q.1 = true := lt_tri hqn hqne
        rw [hd, List.pairwise_cons] at hP2
        intro x hx
        rcases List.mem_cons.1 hx with rfl | hx
        · exact hpq
        · exact lt_trans hpq (hP2.1 x hx)
    refine ⟨hP1, ⟨hhigh, hP2⟩, fun a ha b hb => ?_⟩
    rcases List.mem_cons.1 hb with rfl | hb
    · exact hlow a ha
    · exact hP3 a ha b hb

theorem foldl_srt : ∀ {l m : List (ByteArray × β)}, Srt m → Srt (l.foldl putM m)
  | [], _, h => h
  | p :: l, m, h => foldl_srt (l := l) (m := putM m p) (putM_srt h)
theorem ofM_srt (l : List (ByteArray × β)) : Srt (ofM l) := foldl_srt List.Pairwise.nil

theorem putM_len (l : List (ByteArray × β)) (p : ByteArray × β) : (putM l p).length ≤ l.length + 1 := by
  unfold putM
  split
  · simp
  · simp; have := placeM_le l p.1; omega
theorem foldl_len : ∀ (l m : List (ByteArray × β)), (l.foldl putM m).length ≤ l.length + m.length
  | [], m => by simp
  | p :: l, m => by
    have h1 := foldl_len l (putM m p)
    have h2 := putM_len m p
    simp only [List.foldl_cons, List.length_cons]; omega
theorem ofM_len (l : List (ByteArray × β)) : (ofM l).length ≤ l.length := by
  have := foldl_len l []
  simpa [ofM] using this

theorem putM_end {l : List (ByteArray × β)} {p : ByteArray × β} (h : ∀ x ∈ l, lt x.1 p.1 = true) : putM l p = l ++ [p] := by
  have hp : placeM l p.1 = l.length := placeM_eq (Nat.le_refl _) (fun k hk _ => h _ (List.getElem_mem hk)) (fun hh => absurd hh (Nat.lt_irrefl _))
  have hi : ¬ isM l p.1 = true := by unfold isM; rw [hp]; simp
  unfold putM
  rw [if_neg hi, hp, List.take_length, List.drop_length]

theorem foldl_same : ∀ {l m : List (ByteArray × β)}, Srt (m ++ l) → l.foldl putM m = m ++ l
  | [], m, _ => by simp
  | p :: l, m, h => by
    have hh := h
    unfold Srt at hh
    rw [List.pairwise_append] at hh
    rw [List.foldl_cons, putM_end (fun x hx => hh.2.2 x hx p (List.mem_cons_self ..)), foldl_same (by rw [List.append_assoc]; exact h), List.append_assoc]
    rfl
theorem ofM_same {l : List (ByteArray × β)} (h : Srt l) : ofM l = l := by
  have := foldl_same (l := l) (m := []) (by simpa using h)
  simpa [ofM] using this

/-- In rising names one stands where it would be put, or nowhere. -/
theorem getM_eq {l : List (ByteArray × β)} (h : Srt l) (n : ByteArray) : getM l n = if isM l n = true then (l[placeM l n]?).map (·.2) else none := by
  unfold getM
  split
  · rename_i his
    have hi : (l[placeM l n]?).map (·.1) = some n := of_decide_eq_true his
    obtain ⟨q, hq, hqp⟩ := Option.map_eq_some_iff.1 hi
    have hlt := (List.getElem?_eq_some_iff.1 hq).1
    have hget := (List.getElem?_eq_some_iff.1 hq).2
    rw [hq]
    congr 1
    rw [List.find?_eq_some_iff_append]
    refine ⟨by simp [hqp], l.take (placeM l n), l.drop (placeM l n + 1), ?_, fun x hx => ?_⟩
    · rw [← hget, ← List.drop_eq_getElem_cons hlt, List.take_append_drop]
    · rw [placeM_take] at hx
      have := takeWhile_all' x hx
      have hne : ¬ x.1 = n := fun e => by rw [e, lt_irr] at this; cases this
      simp [hne]
  · rename_i his
    rw [Option.map_eq_none_iff, List.find?_eq_none]
    intro x hx
    obtain ⟨k, hk⟩ := List.getElem?_of_mem hx
    have hkl := (List.getElem?_eq_some_iff.1 hk).1
    have hkg := (List.getElem?_eq_some_iff.1 hk).2
    have hne : ¬ x.1 = n := by
      intro e
      apply his
      have hp : placeM l n = k := placeM_eq (by omega) (fun j hj hjk => by rw [← e, ← hkg]; exact h.lt hkl hjk) (fun hh => by rw [hkg, e]; exact lt_irr n)
      unfold isM
      rw [hp, hk]; simp [e]
    simp [hne]

end Go.Proofs.YtimimkdgofiloaaGreatDoor
