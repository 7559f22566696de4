/- The reading of a selector, as a function of the text. No program in sight. -/
import Derived.Test.YtimimkdgofiloaaGreatDoorDb
namespace Go.Proofs.YtimimkdgofiloaaGreatDoor
open Go Go.Q

theorem data_extract (s : ByteArray) (a e : Nat) : (s.extract a e).data.toList = (s.data.toList.drop a).take (e - a) := by
  rw [ByteArray.data_extract, Array.toList_extract]

theorem size_extract' (s : ByteArray) (a e : Nat) (h : e ≤ s.size) (h2 : a ≤ e) : (s.extract a e).size = e - a := by
  rw [ByteArray.size_extract]; omega

theorem get_extract' (s : ByteArray) (a e k : Nat) (h : k < (s.extract a e).size) : (s.extract a e)[k] = s[a + k]'(by rw [ByteArray.size_extract] at h; omega) := by
  have h1 := get_list (s.extract a e) k h
  rw [data_extract, List.getElem?_take] at h1
  have hk : k < e - a := by rw [ByteArray.size_extract] at h; omega
  rw [if_pos hk, List.getElem?_drop, get_list s (a + k) (by rw [ByteArray.size_extract] at h; omega)] at h1
  exact (Option.some.inj h1).symm

/-- The next byte; 0: none. -/
def nextB (s : ByteArray) (at' : Nat) : UInt8 := if h : at' < s.size then s[at'] else 0
theorem nextB_in {s : ByteArray} {k : Nat} (h : k < s.size) : nextB s k = s[k] := by simp [nextB, h]
theorem nextB_out {s : ByteArray} {k : Nat} (h : s.size ≤ k) : nextB s k = 0 := dif_neg (by omega)
theorem nextB_lt {s : ByteArray} {k : Nat} (h : nextB s k ≠ 0) : k < s.size := by
  rcases Nat.lt_or_ge k s.size with h1 | h1
  · exact h1
  · exact absurd (nextB_out h1) h

/-- How long what comes is, up to the first byte that is so. -/
def tokLen (p : UInt8 → Bool) (s : ByteArray) (a : Nat) : Nat := ((s.data.toList.drop a).takeWhile fun c => !p c).length
def tok (p : UInt8 → Bool) (s : ByteArray) (a : Nat) : ByteArray := s.extract a (a + tokLen p s a)

theorem tokLen_le (p : UInt8 → Bool) (s : ByteArray) (a : Nat) : tokLen p s a ≤ s.size - a := by
  unfold tokLen
  have h := (List.takeWhile_sublist (fun c => !p c) (l := s.data.toList.drop a)).length_le
  rw [List.length_drop, size_list] at h
  exact h

theorem tok_size (p : UInt8 → Bool) (s : ByteArray) (a : Nat) (h : a ≤ s.size) : (tok p s a).size = tokLen p s a := by
  have := tokLen_le p s a
  unfold tok
  rw [size_extract' _ _ _ (by omega) (by omega)]; omega

theorem takeWhile_all {p : UInt8 → Bool} : ∀ {l : List UInt8}, l.all p = true → l.takeWhile p = l
  | [], _ => rfl
  | c :: l, h => by
    simp only [List.all_cons, Bool.and_eq_true] at h
    rw [List.takeWhile_cons_of_pos h.1, takeWhile_all h.2]

theorem takeWhile_at {p : UInt8 → Bool} : ∀ {l : List UInt8} {k : Nat} {c : UInt8}, (l.take k).all p = true → l[k]? = some c → p c = false → l.takeWhile p = l.take k
  | [], _, _, _, h, _ => by simp at h
  | x :: l, 0, c, _, h, hc => by
    simp at h
    subst h
    rw [List.takeWhile_cons_of_neg (by simp [hc])]; rfl
  | x :: l, k + 1, c, h1, h, hc => by
    simp only [List.take_succ_cons, List.all_cons, Bool.and_eq_true] at h1
    rw [List.takeWhile_cons_of_pos h1.1, takeWhile_at h1.2 (by simpa using h) hc]; rfl

theorem tokLen_end {p : UInt8 → Bool} {s : ByteArray} {a k : Nat} (hk : a ≤ k) (he : k = s.size ∨ ∃ h : k < s.size, p s[k] = true) (hall : ((s.data.toList.drop a).take (k - a)).all (fun c => !p c) = true) (hks : k ≤ s.size) : tokLen p s a = k - a := by
  unfold tokLen
  rcases he with rfl | ⟨h, hp⟩
  · have hl : (s.data.toList.drop a).length = s.size - a := by rw [List.length_drop, size_list]
    rw [List.take_of_length_le (by omega)] at hall
    rw [takeWhile_all hall, hl]
  · have hg : (s.data.toList.drop a)[k - a]? = some s[k] := by
      rw [List.getElem?_drop, show a + (k - a) = k by omega]; exact get_list s k h
    rw [takeWhile_at hall hg (by simp [hp]), List.length_take, List.length_drop, size_list]
    omega

theorem tok_of_idx {p : UInt8 → Bool} {s : ByteArray} {a : Nat} (ha : a ≤ s.size) {z : Int} (h : IdxIs p (s.extract a s.size) z) :
    (z = -1 ∧ s.extract a s.size = tok p s a) ∨ (∃ k : Nat, z = k ∧ k ≤ (s.extract a s.size).size ∧ (s.extract a s.size).extract 0 k = tok p s a) := by
  have hsz := size_extract' s a s.size (Nat.le_refl _) ha
  rcases h with ⟨hz, hall⟩ | ⟨k, hz, hlt, hp, hall⟩
  · refine .inl ⟨hz, ?_⟩
    unfold allB at hall
    rw [data_extract] at hall
    have := tokLen_end (p := p) ha (.inl rfl) hall (Nat.le_refl _)
    unfold tok
    rw [this]
    congr 1
    omega
  · refine .inr ⟨k, hz, by omega, ?_⟩
    rw [data_extract, List.take_take, Nat.min_eq_left (by omega)] at hall
    rw [get_extract'] at hp
    have := tokLen_end (p := p) (a := a) (k := a + k) (by omega) (.inr ⟨by omega, hp⟩) (by rw [show a + k - a = k by omega]; exact hall) (by omega)
    unfold tok
    rw [this]
    apply ByteArray.ext
    apply Array.toList_inj.1
    rw [data_extract, data_extract, data_extract, List.drop_zero, List.take_take]
    congr 1
    omega

/-- What is read of a selector's part. -/
structure SPart where
  tag : ByteArray
  classes : List ByteArray
  pairs : List (ByteArray × ByteArray × Bool)
  child : Bool

def qps (l : List (ByteArray × ByteArray × Bool)) : List (List D) := l.map fun q => [D.s q.1, D.s q.2.1, D.b q.2.2]
@[simp] theorem qps_len (l : List (ByteArray × ByteArray × Bool)) : (qps l).length = l.length := by simp [qps]
theorem qps_snoc (l : List (ByteArray × ByteArray × Bool)) (x : ByteArray × ByteArray × Bool) : qps (l ++ [x]) = qps l ++ [[D.s x.1, D.s x.2.1, D.b x.2.2]] := by simp [qps]
theorem qps_get {l : List (ByteArray × ByteArray × Bool)} {k : Nat} (h : k < l.length) : (qps l)[k]? = some [D.s l[k].1, D.s l[k].2.1, D.b l[k].2.2] := by simp [qps, h]

def SPart.d (p : SPart) : List D := [.s p.tag, .l 1 (strs p.classes), .l 3 (qps p.pairs), .b p.child]
def SPart.cs (p : SPart) : List CV := [.d (.s p.tag), .d (.l 1 (strs p.classes)), .d (.l 3 (qps p.pairs)), .d (.b p.child)]

/-- A name from a place on; the place behind it. -/
def nameS (s : ByteArray) (a : Nat) : Option (ByteArray × Nat) := if nameB (tok stopB s a) then some (tok stopB s a, a + tokLen stopB s a) else none

/-- What is between brackets, from behind the first on. -/
def pairS (s : ByteArray) (a : Nat) : Option ((ByteArray × ByteArray × Bool) × Nat) :=
  match nameS s a with
  | none => none
  | some (n, b) =>
    if nextB s b = 61 then
      if valueB (tok (fun c => c == 93) s (b + 1)) then
        if nextB s (b + 1 + tokLen (fun c => c == 93) s (b + 1)) = 93 then some ((n, tok (fun c => c == 93) s (b + 1), false), b + 1 + tokLen (fun c => c == 93) s (b + 1) + 1) else none
      else none
    else if nextB s b = 93 then some ((n, ByteArray.empty, true), b + 1) else none

/-- Classes and pairs, as long as they come. -/
def moreS (s : ByteArray) : Nat → Nat → SPart → Option (SPart × Nat)
  | 0, _, _ => none
  | f + 1, a, p =>
    if nextB s a = 46 then
      match nameS s (a + 1) with
      | none => none
      | some (n, b) => moreS s f b { p with classes := p.classes ++ [n] }
    else if nextB s a = 91 then
      match pairS s (a + 1) with
      | none => none
      | some (q, b) => moreS s f b { p with pairs := p.pairs ++ [q] }
    else some (p, a)

def noPart : SPart := ⟨ByteArray.empty, [], [], false⟩
def starB : ByteArray := ⟨#[42]⟩

/-- A part from a place on. -/
def partS (s : ByteArray) (a : Nat) : Option (SPart × Nat) :=
  if nextB s a = 42 then moreS s (s.size + 1) (a + 1) { noPart with tag := starB }
  else if nextB s a = 46 ∨ nextB s a = 91 then moreS s (s.size + 1) a noPart
  else match nameS s a with
    | none => none
    | some (n, b) => moreS s (s.size + 1) b { noPart with tag := n }

/-- Parts. -/
def partsS (s : ByteArray) : Nat → Nat → Bool → List SPart → Option (List SPart)
  | 0, _, _, _ => none
  | f + 1, a, child, acc =>
    match partS s a with
    | none => none
    | some (p, b) =>
      if blanksN s b = s.size then some (acc ++ [{ p with child := child }])
      else if nextB s (blanksN s b) = 62 then partsS s f (blanksN s (blanksN s b + 1)) true (acc ++ [{ p with child := child }])
      else if blanksN s b = b then none
      else partsS s f (blanksN s b) false (acc ++ [{ p with child := child }])

/-- A selector. -/
def readS (s : ByteArray) : Option (List SPart) := partsS s (s.size + 1) (blanksN s 0) false []

theorem nameS_le {s : ByteArray} {a : Nat} {n : ByteArray} {b : Nat} (ha : a ≤ s.size) (h : nameS s a = some (n, b)) : a < b ∧ b ≤ s.size := by
  unfold nameS at h
  split at h
  · rename_i hn
    simp at h
    obtain ⟨rfl, rfl⟩ := h
    have h1 := tokLen_le stopB s a
    have h2 := tok_size stopB s a ha
    have h3 : keyB (tok stopB s a) = true := by unfold nameB at hn; simp only [Bool.and_eq_true] at hn; exact hn.1
    have h4 := keyB_pos h3
    omega
  · cases h

theorem pairS_le {s : ByteArray} {a : Nat} {q : ByteArray × ByteArray × Bool} {b : Nat} (ha : a ≤ s.size) (h : pairS s a = some (q, b)) : a < b ∧ b ≤ s.size := by
  unfold pairS at h
  split at h
  · cases h
  · rename_i n b' hn
    have hl := nameS_le ha hn
    split at h
    · split at h
      · split at h
        · rename_i h93
          simp at h
          obtain ⟨_, rfl⟩ := h
          have := nextB_lt (s := s) (k := b' + 1 + tokLen (fun c => c == 93) s (b' + 1)) (by rw [h93]; decide)
          omega
        · cases h
      · cases h
    · split at h
      · rename_i h93
        simp at h
        obtain ⟨_, rfl⟩ := h
        have := nextB_lt (s := s) (k := b') (by rw [h93]; decide)
        omega
      · cases h

theorem blanksL_le : ∀ l : List UInt8, blanksL l ≤ l.length
  | [] => Nat.le_refl _
  | c :: l => by
    unfold blanksL
    split
    · have := blanksL_le l; simp; omega
    · omega
theorem blanksN_ge (s : ByteArray) (a : Nat) : a ≤ blanksN s a := by unfold blanksN; omega
theorem blanksN_le {s : ByteArray} {a : Nat} (h : a ≤ s.size) : blanksN s a ≤ s.size := by
  unfold blanksN
  have := blanksL_le (s.data.toList.drop a)
  rw [List.length_drop, size_list] at this
  omega

theorem moreS_le {s : ByteArray} : ∀ {f a : Nat} {p p' : SPart} {b : Nat}, a ≤ s.size → moreS s f a p = some (p', b) → a ≤ b ∧ b ≤ s.size
  | 0, _, _, _, _, _, h => by simp [moreS] at h
  | f + 1, a, p, p', b, ha, h => by
    unfold moreS at h
    split at h
    · rename_i h46
      have hlt := nextB_lt (s := s) (k := a) (by rw [h46]; decide)
      split at h
      · cases h
      · rename_i n c hn
        have h1 := nameS_le (by omega) hn
        have h2 := moreS_le h1.2 h
        omega
    · split at h
      · rename_i h91
        have hlt := nextB_lt (s := s) (k := a) (by rw [h91]; decide)
        split at h
        · cases h
        · rename_i n c hn
          have h1 := pairS_le (by omega) hn
          have h2 := moreS_le h1.2 h
          omega
      · simp at h
        obtain ⟨_, rfl⟩ := h
        exact ⟨Nat.le_refl _, ha⟩

/-- A pair as the program reads it: what it has, where it stands then, is it bad? -/
def pairX (s : ByteArray) (k : Nat) : (ByteArray × ByteArray × Bool) × Nat × Bool :=
  if nameB (tok stopB s k) = true then
    if nextB s (k + tokLen stopB s k) = 61 then
      if valueB (tok (fun c => c == 93) s (k + tokLen stopB s k + 1)) = true then
        if nextB s (k + tokLen stopB s k + 1 + tokLen (fun c => c == 93) s (k + tokLen stopB s k + 1)) = 93 then
          ((tok stopB s k, tok (fun c => c == 93) s (k + tokLen stopB s k + 1), false), k + tokLen stopB s k + 1 + tokLen (fun c => c == 93) s (k + tokLen stopB s k + 1) + 1, false)
        else ((tok stopB s k, tok (fun c => c == 93) s (k + tokLen stopB s k + 1), false), k + tokLen stopB s k + 1 + tokLen (fun c => c == 93) s (k + tokLen stopB s k + 1), true)
      else ((tok stopB s k, ByteArray.empty, false), k + tokLen stopB s k + 1, true)
    else if nextB s (k + tokLen stopB s k) = 93 then ((tok stopB s k, ByteArray.empty, true), k + tokLen stopB s k + 1, false)
    else ((tok stopB s k, ByteArray.empty, true), k + tokLen stopB s k, true)
  else ((ByteArray.empty, ByteArray.empty, true), k, true)

theorem pairX_S (s : ByteArray) (k : Nat) : pairS s k = if (pairX s k).2.2 = true then none else some ((pairX s k).1, (pairX s k).2.1) := by
  unfold pairS nameS pairX
  by_cases h1 : nameB (tok stopB s k) = true
  · simp only [h1, if_true]
    by_cases h2 : nextB s (k + tokLen stopB s k) = 61
    · simp only [h2, if_true]
      by_cases h3 : valueB (tok (fun c => c == 93) s (k + tokLen stopB s k + 1)) = true
      · simp only [h3, if_true]
        by_cases h4 : nextB s (k + tokLen stopB s k + 1 + tokLen (fun c => c == 93) s (k + tokLen stopB s k + 1)) = 93
        · simp [h4]
        · simp [h4]
      · simp [h3]
    · simp only [h2, if_false]
      by_cases h4 : nextB s (k + tokLen stopB s k) = 93
      · simp [h4]
      · simp [h4]
  · simp [h1]

theorem pairX_le {s : ByteArray} {k : Nat} (hk : k ≤ s.size) : k ≤ (pairX s k).2.1 ∧ (pairX s k).2.1 ≤ s.size := by
  have htl := tokLen_le stopB s k
  unfold pairX
  by_cases h1 : nameB (tok stopB s k) = true
  · simp only [h1, if_true]
    by_cases h2 : nextB s (k + tokLen stopB s k) = 61
    · simp only [h2, if_true]
      have hl1 := nextB_lt (s := s) (k := k + tokLen stopB s k) (by rw [h2]; decide)
      have htl2 := tokLen_le (fun c => c == 93) s (k + tokLen stopB s k + 1)
      by_cases h3 : valueB (tok (fun c => c == 93) s (k + tokLen stopB s k + 1)) = true
      · simp only [h3, if_true]
        by_cases h4 : nextB s (k + tokLen stopB s k + 1 + tokLen (fun c => c == 93) s (k + tokLen stopB s k + 1)) = 93
        · have := nextB_lt (s := s) (k := k + tokLen stopB s k + 1 + tokLen (fun c => c == 93) s (k + tokLen stopB s k + 1)) (by rw [h4]; decide)
          simp only [h4, if_true]; omega
        · simp only [h4, if_false]; omega
      · simp [h3]; omega
    · simp only [h2, if_false]
      by_cases h4 : nextB s (k + tokLen stopB s k) = 93
      · have := nextB_lt (s := s) (k := k + tokLen stopB s k) (by rw [h4]; decide)
        simp only [h4, if_true]; omega
      · simp only [h4, if_false]; omega
  · simp [h1]; omega

theorem nameS_zero {s : ByteArray} {k : Nat} (h : nextB s k = 0) (hk : k ≤ s.size) : nameS s k = none := by
  have hn : nameB (tok stopB s k) = false := by
    have hs := tok_size stopB s k hk
    have htl := tokLen_le stopB s k
    by_cases h0 : tokLen stopB s k = 0
    · have h2 : (tok stopB s k).size = 0 := by omega
      have : keyB (tok stopB s k) = false := by unfold keyB; simp [h2]
      unfold nameB; rw [this]; rfl
    · have hlt : k < s.size := by omega
      have hpos : 0 < (tok stopB s k).size := by omega
      have hz : (tok stopB s k)[0] = 0 := by
        have h1 : (tok stopB s k)[0] = s[k + 0] := get_extract' s k (k + tokLen stopB s k) 0 hpos
        rw [h1]
        rw [nextB_in hlt] at h
        exact h
      have hall : allB plainB (tok stopB s k) = false := allB_no (k := 0) hpos (by rw [hz]; decide)
      unfold nameB keyB
      rw [hall]; simp
  unfold nameS
  rw [hn]; rfl

theorem partS_zero {s : ByteArray} {k : Nat} (h : nextB s k = 0) (hk : k ≤ s.size) : partS s k = none := by
  unfold partS
  rw [nameS_zero h hk, h]
  rfl

theorem b8_eq {c d : UInt8} (h : ((c.toNat : Int) == (d.toNat : Int)) = true) : c = d := UInt8.toNat_inj.1 (by have := of_decide_eq_true h; omega)
theorem b8_ne {c d : UInt8} (h : ((c.toNat : Int) == (d.toNat : Int)) = false) : ¬ c = d := fun e => by rw [e] at h; simp at h

theorem moreS_lt {s : ByteArray} {f a : Nat} {p p' : SPart} {b : Nat} (hn : nextB s a = 46 ∨ nextB s a = 91) (h : moreS s f a p = some (p', b)) : a < b ∧ b ≤ s.size := by
  have hlt : a < s.size := nextB_lt (by rcases hn with e | e <;> rw [e] <;> decide)
  cases f with
  | zero => simp [moreS] at h
  | succ f =>
    unfold moreS at h
    split at h
    · split at h
      · cases h
      · rename_i n c hc
        have h1 := nameS_le (by omega) hc
        have h2 := moreS_le h1.2 h
        omega
    · rename_i h46
      rw [if_pos (hn.resolve_left h46)] at h
      split at h
      · cases h
      · rename_i n c hc
        have h1 := pairS_le (by omega) hc
        have h2 := moreS_le h1.2 h
        omega

theorem partS_lt {s : ByteArray} {k : Nat} {p : SPart} {b : Nat} (hk : k ≤ s.size) (h : partS s k = some (p, b)) : k < b ∧ b ≤ s.size := by
  unfold partS at h
  split at h
  · rename_i h42
    have hlt := nextB_lt (s := s) (k := k) (by rw [h42]; decide)
    have := moreS_le (by omega) h
    omega
  · split at h
    · rename_i hn
      exact moreS_lt hn h
    · split at h
      · cases h
      · rename_i n c hc
        have h1 := nameS_le hk hc
        have h2 := moreS_le h1.2 h
        omega

/-- Where it is wrong first: behind a part's head; of a part; of parts. -/
def moreP (s : ByteArray) : Nat → Nat → Nat
  | 0, a => a
  | f + 1, a =>
    if nextB s a = 46 then
      match nameS s (a + 1) with
      | none => a + 1
      | some (_, b) => moreP s f b
    else if nextB s a = 91 then
      if (pairX s (a + 1)).2.2 = true then (pairX s (a + 1)).2.1 else moreP s f (pairX s (a + 1)).2.1
    else a
def partP (s : ByteArray) (a : Nat) : Nat :=
  if nextB s a = 42 then moreP s (s.size + 1) (a + 1)
  else if nextB s a = 46 ∨ nextB s a = 91 then moreP s (s.size + 1) a
  else match nameS s a with
    | none => a
    | some (_, b) => moreP s (s.size + 1) b
def partsP (s : ByteArray) : Nat → Nat → Nat
  | 0, _ => 0
  | f + 1, a =>
    match partS s a with
    | none => partP s a
    | some (_, b) =>
      if blanksN s b = s.size then 0
      else if nextB s (blanksN s b) = 62 then partsP s f (blanksN s (blanksN s b + 1))
      else if blanksN s b = b then b
      else partsP s f (blanksN s b)
def placeS (s : ByteArray) : Nat := partsP s (s.size + 1) (blanksN s 0)
theorem partP_zero {s : ByteArray} {k : Nat} (h : nextB s k = 0) (hk : k ≤ s.size) : partP s k = k := by
  unfold partP
  rw [nameS_zero h hk, h]
  simp

end Go.Proofs.YtimimkdgofiloaaGreatDoor
