/- Selectors one behind the other; with a > there fit no more. No program in sight. -/
import Derived.Test.YtlibfaghiogekaaDh
namespace Go.Proofs.Ytlibfaghiogekaa
open Go Go.Q

theorem nextB_list (s : ByteArray) (a : Nat) : nextB s a = (s.data.toList.drop a).head?.getD 0 := by
  rcases Nat.lt_or_ge a s.size with h | h
  · rw [nextB_in h, drop_get s a h]; rfl
  · rw [nextB_out h, List.drop_eq_nil_of_le (by rw [size_list]; exact h)]; rfl

theorem tw_app {q : UInt8 → Bool} {t : List UInt8} (ht : t = [] ∨ ∃ c r, t = c :: r ∧ q c = false) : ∀ l : List UInt8, (l ++ t).takeWhile q = l.takeWhile q
  | [] => by
    rcases ht with rfl | ⟨c, r, rfl, hc⟩
    · rfl
    · simp [hc]
  | a :: l => by
    have ih := tw_app ht l
    by_cases h : q a = true
    · rw [List.cons_append, List.takeWhile_cons_of_pos h, List.takeWhile_cons_of_pos h, ih]
    · rw [List.cons_append, List.takeWhile_cons_of_neg h, List.takeWhile_cons_of_neg h]
theorem tw_in {q : UInt8 → Bool} {t : List UInt8} : ∀ l : List UInt8, (l.takeWhile q).length < l.length → (l ++ t).takeWhile q = l.takeWhile q
  | [], h => by simp at h
  | a :: l, h => by
    by_cases hq : q a = true
    · rw [List.cons_append, List.takeWhile_cons_of_pos hq, List.takeWhile_cons_of_pos hq, tw_in l (by rw [List.takeWhile_cons_of_pos hq] at h; simpa using h)]
    · rw [List.cons_append, List.takeWhile_cons_of_neg hq, List.takeWhile_cons_of_neg hq]

/-- A text within another one: from a place on, with more behind it (nothing, or a blank first). -/
structure Shift (s2 s : ByteArray) (d : Nat) (t : List UInt8) : Prop where
  drop : ∀ a, a ≤ s.size → s2.data.toList.drop (d + a) = s.data.toList.drop a ++ t
  size : s2.size = d + s.size + t.length
  blank : t = [] ∨ ∃ r, t = 32 :: r

section
variable {s2 s : ByteArray} {d : Nat} {t : List UInt8} (H : Shift s2 s d t)
include H

theorem Shift.next {a : Nat} (ha : a < s.size) : nextB s2 (d + a) = nextB s a := by
  rw [nextB_list, nextB_list, H.drop a (by omega), drop_get s a ha]; rfl
theorem Shift.nextEnd : nextB s2 (d + s.size) = 0 ∨ nextB s2 (d + s.size) = 32 := by
  rw [nextB_list, H.drop _ (Nat.le_refl _), List.drop_eq_nil_of_le (by rw [size_list]; exact Nat.le_refl _), List.nil_append]
  rcases H.blank with rfl | ⟨r, rfl⟩
  · exact .inl rfl
  · exact .inr rfl
theorem Shift.nextIs {a : Nat} (ha : a ≤ s.size) {c : UInt8} (h0 : c ≠ 0) (h32 : c ≠ 32) : nextB s2 (d + a) = c ↔ nextB s a = c := by
  rcases Nat.lt_or_eq_of_le ha with h | rfl
  · rw [H.next h]
  · rw [nextB_out (Nat.le_refl s.size)]
    constructor
    · intro h
      rcases H.nextEnd with h1 | h1
      · exact absurd (h1.symm.trans h).symm h0
      · exact absurd (h1.symm.trans h).symm h32
    · intro h; exact absurd h.symm h0

theorem Shift.tokLenS {a : Nat} (ha : a ≤ s.size) : tokLen stopB s2 (d + a) = tokLen stopB s a := by
  unfold tokLen
  rw [H.drop a ha, tw_app]
  rcases H.blank with rfl | ⟨r, rfl⟩
  · exact .inl rfl
  · exact .inr ⟨32, r, rfl, by decide⟩
theorem Shift.extract {a n : Nat} (ha : a + n ≤ s.size) : s2.extract (d + a) (d + a + n) = s.extract a (a + n) := by
  apply ByteArray.ext
  apply Array.toList_inj.1
  rw [data_extract, data_extract, H.drop a (by omega), List.take_append_of_le_length (by rw [List.length_drop, size_list]; omega)]
  congr 1
  omega
theorem Shift.tokS {a : Nat} (ha : a ≤ s.size) : tok stopB s2 (d + a) = tok stopB s a := by
  have := tokLen_le stopB s a
  unfold tok
  rw [H.tokLenS ha]
  exact H.extract (by omega)
theorem Shift.name {a : Nat} (ha : a ≤ s.size) : nameS s2 (d + a) = (nameS s a).map fun r => (r.1, d + r.2) := by
  unfold nameS
  rw [H.tokS ha, H.tokLenS ha]
  split
  · simp [Nat.add_assoc]
  · rfl
theorem Shift.tokLen93 {a : Nat} (ha : a ≤ s.size) (h : nextB s (a + tokLen (fun c => c == 93) s a) = 93) : tokLen (fun c => c == 93) s2 (d + a) = tokLen (fun c => c == 93) s a := by
  have hlt := nextB_lt (s := s) (k := a + tokLen (fun c => c == 93) s a) (by rw [h]; decide)
  unfold tokLen at hlt ⊢
  rw [H.drop a ha, tw_in _ (by rw [List.length_drop, size_list]; omega)]

theorem Shift.pair {a : Nat} (ha : a ≤ s.size) {q : ByteArray × ByteArray × Bool} {b : Nat} (h : pairS s a = some (q, b)) : pairS s2 (d + a) = some (q, d + b) := by
  unfold pairS at h ⊢
  rw [H.name ha]
  cases hn : nameS s a with
  | none => rw [hn] at h; cases h
  | some r =>
    obtain ⟨n, e⟩ := r
    have hle := (nameS_le ha hn).2
    rw [hn] at h
    simp only [Option.map_some] at h ⊢
    by_cases h61 : nextB s e = 61
    · rw [if_pos h61] at h
      rw [if_pos ((H.nextIs hle (by decide) (by decide)).2 h61)]
      have hlt := nextB_lt (s := s) (k := e) (by rw [h61]; decide)
      split at h
      · rename_i hv
        split at h
        · rename_i h93
          have ht := H.tokLen93 (a := e + 1) (by omega) h93
          have hlt2 := nextB_lt (s := s) (k := e + 1 + tokLen (fun c => c == 93) s (e + 1)) (by rw [h93]; decide)
          have htk : tok (fun c => c == 93) s2 (d + e + 1) = tok (fun c => c == 93) s (e + 1) := by
            unfold tok
            rw [Nat.add_assoc d e 1, ht]
            exact H.extract (by omega)
          have hpos : d + e + 1 + tokLen (fun c => c == 93) s2 (d + e + 1) = d + (e + 1 + tokLen (fun c => c == 93) s (e + 1)) := by rw [Nat.add_assoc d e 1, ht]; omega
          rw [htk, if_pos hv, hpos, if_pos ((H.nextIs (by omega) (by decide) (by decide)).2 h93)]
          simp only [Option.some.injEq, Prod.mk.injEq] at h ⊢
          obtain ⟨h1, h2⟩ := h
          exact ⟨h1, by omega⟩
        · cases h
      · cases h
    · rw [if_neg h61] at h
      rw [if_neg (fun e' => h61 ((H.nextIs hle (by decide) (by decide)).1 e'))]
      split at h
      · rename_i h93
        rw [if_pos ((H.nextIs hle (by decide) (by decide)).2 h93)]
        simp only [Option.some.injEq, Prod.mk.injEq] at h ⊢
        obtain ⟨h1, h2⟩ := h
        exact ⟨h1, by omega⟩
      · cases h

theorem Shift.more : ∀ {f a : Nat} {p p' : SPart} {b : Nat}, a ≤ s.size → moreS s f a p = some (p', b) → ∀ f', f ≤ f' → moreS s2 f' (d + a) p = some (p', d + b)
  | 0, _, _, _, _, _, h, _, _ => by simp [moreS] at h
  | f + 1, a, p, p', b, ha, h, f', hf => by
    obtain ⟨g, rfl⟩ : ∃ g, f' = g + 1 := ⟨f' - 1, by omega⟩
    simp only [moreS] at h ⊢
    by_cases h46 : nextB s a = 46
    · rw [if_pos h46] at h
      rw [if_pos ((H.nextIs ha (by decide) (by decide)).2 h46)]
      have hlt := nextB_lt (s := s) (k := a) (by rw [h46]; decide)
      rw [Nat.add_assoc d a 1, H.name (a := a + 1) (by omega)]
      cases hn : nameS s (a + 1) with
      | none => rw [hn] at h; cases h
      | some r =>
        obtain ⟨n, e⟩ := r
        rw [hn] at h
        exact Shift.more (nameS_le (by omega) hn).2 h g (by omega)
    · rw [if_neg h46] at h
      rw [if_neg (fun e' => h46 ((H.nextIs ha (by decide) (by decide)).1 e'))]
      by_cases h91 : nextB s a = 91
      · rw [if_pos h91] at h
        rw [if_pos ((H.nextIs ha (by decide) (by decide)).2 h91)]
        have hlt := nextB_lt (s := s) (k := a) (by rw [h91]; decide)
        cases hn : pairS s (a + 1) with
        | none => rw [hn] at h; cases h
        | some r =>
          obtain ⟨q, e⟩ := r
          rw [hn] at h
          rw [Nat.add_assoc d a 1, H.pair (a := a + 1) (by omega) hn]
          exact Shift.more (pairS_le (by omega) hn).2 h g (by omega)
      · rw [if_neg h91] at h
        rw [if_neg (fun e' => h91 ((H.nextIs ha (by decide) (by decide)).1 e'))]
        simp only [Option.some.injEq, Prod.mk.injEq] at h ⊢
        exact ⟨h.1, by omega⟩

theorem Shift.part {a : Nat} (ha : a ≤ s.size) {p : SPart} {b : Nat} (h : partS s a = some (p, b)) : partS s2 (d + a) = some (p, d + b) := by
  have hsz := H.size
  unfold partS at h ⊢
  by_cases h42 : nextB s a = 42
  · rw [if_pos h42] at h
    rw [if_pos ((H.nextIs ha (by decide) (by decide)).2 h42)]
    have hlt := nextB_lt (s := s) (k := a) (by rw [h42]; decide)
    exact H.more (a := a + 1) (by omega) h _ (by omega)
  · rw [if_neg h42] at h
    rw [if_neg (fun e' => h42 ((H.nextIs ha (by decide) (by decide)).1 e'))]
    by_cases hd : nextB s a = 46 ∨ nextB s a = 91
    · rw [if_pos hd] at h
      rw [if_pos (hd.imp (H.nextIs ha (by decide) (by decide)).2 (H.nextIs ha (by decide) (by decide)).2)]
      exact H.more ha h _ (by omega)
    · rw [if_neg hd] at h
      rw [if_neg (fun e' => hd (e'.imp (H.nextIs ha (by decide) (by decide)).1 (H.nextIs ha (by decide) (by decide)).1))]
      rw [H.name ha]
      cases hn : nameS s a with
      | none => rw [hn] at h; cases h
      | some r =>
        obtain ⟨n, e⟩ := r
        rw [hn] at h
        exact H.more (nameS_le ha hn).2 h _ (by omega)

omit H in
theorem bl_pos {c : UInt8} {l : List UInt8} (h : ((c.toNat : Int) == 32) = true) : blanksL (c :: l) = blanksL l + 1 := by show (if (c.toNat : Int) == 32 then blanksL l + 1 else 0) = _; rw [if_pos h]
omit H in
theorem bl_neg {c : UInt8} {l : List UInt8} (h : ¬ ((c.toNat : Int) == 32) = true) : blanksL (c :: l) = 0 := by show (if (c.toNat : Int) == 32 then blanksL l + 1 else 0) = _; rw [if_neg h]
omit H in
theorem blanksL_app (t : List UInt8) : ∀ l : List UInt8, blanksL (l ++ t) = if blanksL l = l.length then blanksL l + blanksL t else blanksL l
  | [] => by simp [blanksL]
  | c :: l => by
    have ih := blanksL_app t l
    by_cases h : ((c.toNat : Int) == 32) = true
    · rw [List.cons_append, bl_pos h, bl_pos h, ih, List.length_cons]
      by_cases hb : blanksL l = l.length
      · rw [if_pos hb, if_pos (by rw [hb])]; omega
      · rw [if_neg hb, if_neg (by omega)]
    · rw [List.cons_append, bl_neg h, bl_neg h, List.length_cons, if_neg (by omega)]

theorem Shift.blanks {a : Nat} (ha : a ≤ s.size) : blanksN s2 (d + a) = d + blanksN s a + (if blanksN s a = s.size then blanksL t else 0) := by
  unfold blanksN
  rw [H.drop a ha, blanksL_app, List.length_drop, size_list]
  by_cases h : blanksL (s.data.toList.drop a) = s.size - a
  · rw [if_pos h, if_pos (by omega)]; omega
  · rw [if_neg h, if_neg (by omega)]; omega
end

theorem partsS_ge {s : ByteArray} : ∀ (f a : Nat) (child : Bool) (acc l : List SPart), partsS s f a child acc = some l → acc.length + 1 ≤ l.length
  | 0, _, _, _, _, h => by simp [partsS] at h
  | f + 1, a, child, acc, l, h => by
    simp only [partsS] at h
    split at h
    · cases h
    · split at h
      · simp only [Option.some.injEq] at h
        rw [← h, List.length_append]; simp
      · split at h
        · have := partsS_ge f _ _ _ _ h
          rw [List.length_append] at this; simp at this; omega
        · split at h
          · cases h
          · have := partsS_ge f _ _ _ _ h
            rw [List.length_append] at this; simp at this; omega

/-- One part alone. -/
theorem read_one {s : ByteArray} {p : SPart} (h : readS s = some [p]) : ∃ p' e, partS s (blanksN s 0) = some (p', e) ∧ blanksN s e = s.size ∧ p = { p' with child := false } := by
  unfold readS at h
  simp only [partsS] at h
  split at h
  · cases h
  · rename_i p' e hp
    split at h
    · rename_i he
      simp only [Option.some.injEq, List.nil_append, List.cons.injEq, and_true] at h
      exact ⟨p', e, hp, he, h.symm⟩
    · split at h
      · have := partsS_ge _ _ _ _ _ h
        simp at this
      · split at h
        · cases h
        · have := partsS_ge _ _ _ _ _ h
          simp at this

/-- What is read goes on as the longer text does. -/
theorem parts_on {s2 s : ByteArray} {t : List UInt8} (H : Shift s2 s 0 t) (a2 : Nat) (ch : Bool)
    (hstep : ∀ (e g : Nat) (acc : List SPart), blanksN s e = s.size → e ≤ s.size → (if blanksN s2 e = s2.size then some acc else if nextB s2 (blanksN s2 e) = 62 then partsS s2 g (blanksN s2 (blanksN s2 e + 1)) true acc else if blanksN s2 e = e then none else partsS s2 g (blanksN s2 e) false acc) = partsS s2 g a2 ch acc) :
    ∀ (f a : Nat) (child : Bool) (acc l : List SPart), a ≤ s.size → partsS s f a child acc = some l → ∀ k, ∃ g, k ≤ g ∧ partsS s2 (f + k) a child acc = partsS s2 g a2 ch l
  | 0, _, _, _, _, _, h, _ => by simp [partsS] at h
  | f + 1, a, child, acc, l, ha, h, k => by
    rw [show f + 1 + k = (f + k) + 1 by omega]
    simp only [partsS] at h ⊢
    cases hp : partS s a with
    | none => rw [hp] at h; cases h
    | some r =>
      obtain ⟨p, e⟩ := r
      have hlt := partS_lt ha hp
      have hp2 := H.part ha hp
      rw [Nat.zero_add, Nat.zero_add] at hp2
      rw [hp2]
      rw [hp] at h
      simp only [] at h ⊢
      by_cases he : blanksN s e = s.size
      · rw [if_pos he] at h
        simp only [Option.some.injEq] at h
        rw [h]
        exact ⟨f + k, by omega, hstep e (f + k) l he hlt.2⟩
      · rw [if_neg he] at h
        have hb := H.blanks hlt.2
        rw [if_neg he, Nat.zero_add, Nat.zero_add, Nat.add_zero] at hb
        have hble := blanksN_le (s := s) (a := e) hlt.2
        have hblt : blanksN s e < s.size := by omega
        have hsz := H.size
        rw [hb, if_neg (show ¬ blanksN s e = s2.size by omega)]
        have hn := H.next hblt
        rw [Nat.zero_add] at hn
        rw [hn]
        by_cases h62 : nextB s (blanksN s e) = 62
        · rw [if_pos h62] at h
          rw [if_pos h62]
          have hb2le := blanksN_le (s := s) (a := blanksN s e + 1) hblt
          by_cases hend : blanksN s (blanksN s e + 1) = s.size
          · -- a > at the end: no part follows
            exfalso
            rw [hend] at h
            cases f with
            | zero => simp [partsS] at h
            | succ f =>
              simp only [partsS] at h
              rw [partS_zero (nextB_out (Nat.le_refl _)) (Nat.le_refl _)] at h
              cases h
          · have hb2 := H.blanks (a := blanksN s e + 1) (by omega)
            rw [if_neg hend, Nat.zero_add, Nat.zero_add, Nat.add_zero] at hb2
            rw [hb2]
            exact parts_on H a2 ch hstep f _ true _ l hb2le h k
        · rw [if_neg h62] at h
          rw [if_neg h62]
          by_cases hee : blanksN s e = e
          · rw [if_pos hee] at h; cases h
          · rw [if_neg hee] at h
            rw [if_neg hee]
            exact parts_on H a2 ch hstep f _ false _ l hble h k
end Go.Proofs.Ytlibfaghiogekaa
namespace Go.Proofs.Ytlibfaghiogekaa
open Go Go.Q

theorem shift_pre (a : ByteArray) (t : ByteArray) (ht : ∃ r, t.data.toList = 32 :: r) : Shift (a ++ t) a 0 t.data.toList := by
  refine ⟨fun k hk => ?_, ?_, ?_⟩
  · rw [Nat.zero_add]
    have : (a ++ t).data.toList = a.data.toList ++ t.data.toList := by simp
    rw [this, List.drop_append_of_le_length (by rw [size_list]; exact hk)]
  · rw [ByteArray.size_append, Nat.zero_add]
    congr 1
  · obtain ⟨r, hr⟩ := ht
    exact .inr ⟨r, hr⟩
theorem shift_suf (u b : ByteArray) : Shift (u ++ b) b u.size [] := by
  refine ⟨fun k _ => ?_, ?_, .inl rfl⟩
  · have : (u ++ b).data.toList = u.data.toList ++ b.data.toList := by simp
    rw [this, List.append_nil, ← size_list u, List.drop_append]
    have h2 : List.drop (u.data.toList.length + k) u.data.toList = [] := List.drop_eq_nil_of_le (by omega)
    rw [h2, List.nil_append]
    congr 1
    omega
  · rw [ByteArray.size_append]; rfl

theorem part_not {s : ByteArray} {a : Nat} (h : partS s a ≠ none) (ha : a ≤ s.size) : a < s.size ∧ nextB s a ≠ 62 := by
  refine ⟨?_, fun e => h ?_⟩
  · rcases Nat.lt_or_eq_of_le ha with h1 | h1
    · exact h1
    · exact absurd (partS_zero (nextB_out (by omega)) ha) h
  · have hz : tokLen stopB s a = 0 := by
      have hlt := nextB_lt (s := s) (k := a) (by rw [e]; decide)
      unfold tokLen
      rw [drop_get s a hlt]
      rw [nextB_in hlt] at e
      rw [List.takeWhile_cons_of_neg (by rw [e]; decide)]
      rfl
    have hn : nameS s a = none := by
      unfold nameS
      have hk : keyB (tok stopB s a) = false := by
        unfold keyB
        rw [tok_size _ _ _ ha, hz]
        simp
      unfold nameB
      rw [hk]
      simp
    unfold partS
    rw [e, hn]
    simp

/-- The one behind the other. -/
theorem read_join (a b t : ByteArray) (A : List SPart) (p : SPart) (ch : Bool) (hA : readS a = some A) (hb : readS b = some [p])
    (ht : (ch = true ∧ t = ⟨#[32, 62, 32]⟩) ∨ (ch = false ∧ t = ⟨#[32]⟩)) : readS (a ++ t ++ b) = some (A ++ [{ p with child := ch }]) := by
  obtain ⟨p', e, hp, he, rfl⟩ := read_one hb
  have hb0 := blanksN_le (s := b) (a := 0) (Nat.zero_le _)
  have hnot := part_not (by rw [hp]; simp) hb0
  have htsz : t.size = 3 ∨ t.size = 1 := by
    rcases ht with ⟨_, rfl⟩ | ⟨_, rfl⟩
    · exact .inl rfl
    · exact .inr rfl
  have hsz : (a ++ t ++ b).size = a.size + t.size + b.size := by rw [ByteArray.size_append, ByteArray.size_append]
  have hassoc : a ++ t ++ b = a ++ (t ++ b) := ByteArray.append_assoc
  have H1 : Shift (a ++ t ++ b) a 0 (t ++ b).data.toList := by
    rw [hassoc]
    refine shift_pre a (t ++ b) ?_
    rcases ht with ⟨_, rfl⟩ | ⟨_, rfl⟩
    · exact ⟨[62, 32] ++ b.data.toList, by simp⟩
    · exact ⟨b.data.toList, by simp⟩
  have H2 : Shift (a ++ t ++ b) b (a ++ t).size [] := shift_suf (a ++ t) b
  have hat : (a ++ t).size = a.size + t.size := ByteArray.size_append
  have hp2 := H2.part hb0 hp
  have hbl2 := H2.blanks (a := 0) (Nat.zero_le _)
  have hnil : blanksL ([] : List UInt8) = 0 := rfl
  have hite : (if blanksN b 0 = b.size then blanksL ([] : List UInt8) else 0) = 0 := by split <;> rfl
  rw [hite, Nat.add_zero, Nat.add_zero] at hbl2
  have hlt := partS_lt hb0 hp
  have hble := H2.blanks (a := e) hlt.2
  have hite2 : (if blanksN b e = b.size then blanksL ([] : List UInt8) else 0) = 0 := by split <;> rfl
  rw [hite2, Nat.add_zero, he] at hble
  have hfin : ∀ (g : Nat) (acc : List SPart), 1 ≤ g → partsS (a ++ t ++ b) g ((a ++ t).size + blanksN b 0) ch acc = some (acc ++ [{ p' with child := ch }]) := by
    intro g acc hg
    obtain ⟨g, rfl⟩ : ∃ k, g = k + 1 := ⟨g - 1, by omega⟩
    simp only [partsS]
    rw [hp2]
    simp only []
    rw [if_pos (by rw [hble, hsz, hat])]
  have hstep : ∀ (e g : Nat) (acc : List SPart), blanksN a e = a.size → e ≤ a.size → (if blanksN (a ++ t ++ b) e = (a ++ t ++ b).size then some acc else if nextB (a ++ t ++ b) (blanksN (a ++ t ++ b) e) = 62 then partsS (a ++ t ++ b) g (blanksN (a ++ t ++ b) (blanksN (a ++ t ++ b) e + 1)) true acc else if blanksN (a ++ t ++ b) e = e then none else partsS (a ++ t ++ b) g (blanksN (a ++ t ++ b) e) false acc) = partsS (a ++ t ++ b) g ((a ++ t).size + blanksN b 0) ch acc := by
    intro e g acc hae hea
    have h1 := H1.blanks hea
    rw [if_pos hae, Nat.zero_add, Nat.zero_add, hae] at h1
    have hnilA : List.drop a.size a.data.toList = [] := List.drop_eq_nil_of_le (by rw [size_list]; exact Nat.le_refl _)
    rcases ht with ⟨rfl, rfl⟩ | ⟨rfl, rfl⟩
    · have hL : blanksL ((⟨#[32, 62, 32]⟩ : ByteArray) ++ b).data.toList = 1 := by
        have : ((⟨#[32, 62, 32]⟩ : ByteArray) ++ b).data.toList = 32 :: 62 :: 32 :: b.data.toList := by simp
        rw [this, bl_pos (by decide), bl_neg (by decide)]
      rw [hL] at h1
      have hgt : nextB (a ++ ⟨#[32, 62, 32]⟩ ++ b) (a.size + 1) = 62 := by
        rw [nextB_list]
        have h3 := H1.drop a.size (Nat.le_refl _)
        rw [Nat.zero_add, hnilA, List.nil_append] at h3
        rw [← List.drop_drop, h3]
        simp
      have h2 : blanksN (a ++ ⟨#[32, 62, 32]⟩ ++ b) (a.size + 1 + 1) = (a ++ ⟨#[32, 62, 32]⟩).size + blanksN b 0 := by
        have h3 := H1.drop a.size (Nat.le_refl _)
        rw [Nat.zero_add, hnilA, List.nil_append] at h3
        unfold blanksN
        rw [show a.size + 1 + 1 = a.size + 2 by omega, ← List.drop_drop, h3]
        have h4 : List.drop 2 ((⟨#[32, 62, 32]⟩ : ByteArray) ++ b).data.toList = 32 :: b.data.toList := by simp
        have h5 : (⟨#[32, 62, 32]⟩ : ByteArray).size = 3 := rfl
        rw [h4, bl_pos (by decide), hat, List.drop_zero, h5]
        omega
      rw [h1, if_neg (by rw [hsz]; omega), if_pos hgt, h2]
    · have hL : blanksL ((⟨#[32]⟩ : ByteArray) ++ b).data.toList = blanksN b 0 + 1 := by
        have : ((⟨#[32]⟩ : ByteArray) ++ b).data.toList = 32 :: b.data.toList := by simp
        rw [this, bl_pos (by decide)]
        unfold blanksN
        simp
      rw [hL] at h1
      have h5 : (⟨#[32]⟩ : ByteArray).size = 1 := rfl
      have hpos : a.size + (blanksN b 0 + 1) = (a ++ ⟨#[32]⟩).size + blanksN b 0 := by rw [hat, h5]; omega
      have hnx := H2.next hnot.1
      rw [h1, if_neg (by rw [hsz, h5]; omega), hpos, hnx, if_neg hnot.2, if_neg (by omega)]
  obtain ⟨g, hg, heq⟩ := parts_on H1 ((a ++ t).size + blanksN b 0) ch hstep (a.size + 1) (blanksN a 0) false [] A (blanksN_le (Nat.zero_le _)) hA ((a ++ t ++ b).size - a.size)
  have hfu : a.size + 1 + ((a ++ t ++ b).size - a.size) = (a ++ t ++ b).size + 1 := by omega
  rw [hfu] at heq
  have hst : blanksN (a ++ t ++ b) 0 = blanksN a 0 := by
    have h1 := H1.blanks (a := 0) (Nat.zero_le _)
    rw [if_neg, Nat.zero_add, Nat.zero_add, Nat.add_zero] at h1
    · exact h1
    · intro h0
      unfold readS at hA
      simp only [partsS] at hA
      rw [h0, partS_zero (nextB_out (Nat.le_refl _)) (Nat.le_refl _)] at hA
      cases hA
  unfold readS
  rw [hst, heq]
  exact hfin g A (by omega)

/-! ### Fits -/
theorem fits_child (t : Tr) (p : SPart) (c : Bool) : t.fits { p with child := c } = t.fits p := by cases t; rfl
theorem fitsV_below {R : List SPart} {p : SPart} {w : List Tr} (h : fitsV ({ p with child := true } :: R) w = true) : fitsV ({ p with child := false } :: R) w = true := by
  cases w with
  | nil => cases h
  | cons t w =>
    simp only [fitsV, Bool.and_eq_true, Bool.or_eq_true, fits_child] at h ⊢
    refine ⟨h.1, h.2.imp id fun h2 => ?_⟩
    rw [if_pos trivial] at h2
    rw [if_neg (by decide)]
    cases w with
    | nil => rw [anyTail]; exact h2
    | cons u w => rw [anyTail, h2]; rfl
theorem fitsV_last {R : List SPart} {p : SPart} {w : List Tr} (h : fitsV ({ p with child := false } :: R) w = true) (c : Bool) : fitsV [{ p with child := c }] w = true := by
  cases w with
  | nil => cases h
  | cons t w =>
    simp only [fitsV, Bool.and_eq_true, fits_child] at h ⊢
    exact ⟨h.1, by simp⟩

mutual
theorem allV_sub {ps qs : List SPart} (h : ∀ w, fitsV ps.reverse w = true → fitsV qs.reverse w = true) : ∀ (t : Tr) (up : List Tr), ∀ x ∈ allV ps t up, x ∈ allV qs t up
  | .mk id kind tag text cl at' st kids, up, x, hx => by
    rw [allV] at hx ⊢
    rcases List.mem_append.1 hx with h1 | h1
    · refine List.mem_append_left _ ?_
      split at h1
      · rename_i hf
        rw [if_pos (h _ hf)]; exact h1
      · cases h1
    · exact List.mem_append_right _ (kidsAllV_sub h kids _ x h1)
theorem kidsAllV_sub {ps qs : List SPart} (h : ∀ w, fitsV ps.reverse w = true → fitsV qs.reverse w = true) : ∀ (l : List Tr) (up : List Tr), ∀ x ∈ kidsAllV ps l up, x ∈ kidsAllV qs l up
  | [], _, x, hx => by cases hx
  | t :: l, up, x, hx => by
    rw [kidsAllV] at hx ⊢
    rcases List.mem_append.1 hx with h1 | h1
    · exact List.mem_append_left _ (allV_sub h t up x h1)
    · exact List.mem_append_right _ (kidsAllV_sub h l up x h1)
end
theorem within_of {a b : List Int} (h : ∀ x ∈ a, x ∈ b) : withinB a b = true := by
  unfold withinB
  rw [List.all_eq_true]
  intro x hx
  rw [List.any_eq_true]
  exact ⟨x, h x hx, by simp⟩
theorem all_within {ps qs : List SPart} (h : ∀ w, fitsV ps.reverse w = true → fitsV qs.reverse w = true) (t : Tr) : withinB (allM ps t) (allM qs t) = true := by
  rw [allM_eq, allM_eq]
  exact within_of (allV_sub h t [])
end Go.Proofs.Ytlibfaghiogekaa
