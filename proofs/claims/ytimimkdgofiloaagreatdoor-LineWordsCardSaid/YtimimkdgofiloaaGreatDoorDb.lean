/- Where the first of some bytes is; what runes have to do with bytes. No program in sight. -/
import Derived.Test.YtimimkdgofiloaaGreatDoorDa
import Derived.Test.YtimimkdgofiloaaGreatDoorQk
namespace Go.Proofs.YtimimkdgofiloaaGreatDoor
open Go Go.Q

abbrev endsB : ByteArray := ⟨#[32, 62, 46, 91, 93, 61]⟩
abbrev closeB : ByteArray := ⟨#[93]⟩

/-- Where the first byte is that is so; -1: there is none. -/
def IdxIs (p : UInt8 → Bool) (s : ByteArray) (z : Int) : Prop :=
  (z = -1 ∧ allB (fun c => !p c) s = true) ∨ ∃ k : Nat, z = k ∧ ∃ h : k < s.size, p s[k] = true ∧ (s.data.toList.take k).all (fun c => !p c) = true

theorem idx_of_byte (s : ByteArray) (c : UInt8) : IdxIs (fun x => x == c) s (Lib.indexByte s.data.toList c) := by
  by_cases h : Lib.indexByte s.data.toList c = -1
  · refine .inl ⟨h, ?_⟩
    unfold allB
    rw [List.all_eq_true]
    intro x hx
    obtain ⟨k, hk⟩ := List.getElem?_of_mem hx
    have := Lib.indexByte_none h k
    rw [hk] at this
    simpa using this
  · have hge := Lib.indexByte_ge s.data.toList c
    obtain ⟨o, ho⟩ : ∃ o : Nat, Lib.indexByte s.data.toList c = o := ⟨(Lib.indexByte s.data.toList c).toNat, by omega⟩
    obtain ⟨h1, h2⟩ := Lib.indexByte_some ho
    have hlt : o < s.size := by
      have := (List.getElem?_eq_some_iff.1 h1).1
      rwa [size_list] at this
    refine .inr ⟨o, ho, hlt, ?_, ?_⟩
    · rw [get_list s o hlt] at h1
      simpa using h1
    · rw [List.all_eq_true]
      intro x hx
      obtain ⟨k, hk⟩ := List.getElem?_of_mem hx
      rw [List.getElem?_take] at hk
      split at hk
      · rename_i hko
        have := h2 k hko
        rw [hk] at this
        simpa using this
      · cases hk

theorem get_in (s : ByteArray) (k : Nat) (h : k < s.size) : s.get! k = s[k] := by
  have := get_at s k h
  simpa using this

/-- The bytes of a rune that is none of ASCII are none of ASCII. -/
theorem decode_rest (s : ByteArray) (p : Nat) (h : p < s.size) (ha : 128 ≤ (s[p]).toNat) :
    ∀ k, k < (Utf8.decode s p).2 → ∃ hk : p + k < s.size, 128 ≤ (s[p + k]).toNat := by
  have hn : ¬ (s[p]).toNat < 128 := by omega
  have key : ∀ k, (decide (p + k < s.size) && (s.get! (p + k)).toNat / 64 == 2) = true → ∃ hk : p + k < s.size, 128 ≤ (s[p + k]).toNat := by
    intro k hk
    simp only [Bool.and_eq_true, decide_eq_true_eq, beq_iff_eq] at hk
    refine ⟨hk.1, ?_⟩
    have h2 := hk.2
    rw [get_in s (p + k) hk.1] at h2
    omega
  have k0 : ∃ hk : p + 0 < s.size, 128 ≤ (s[p + 0]).toNat := ⟨h, ha⟩
  intro k hk
  simp only [Utf8.decode, get_at s p h, hn, if_false] at hk
  split at hk
  · rename_i h1
    have h1' := (Bool.and_eq_true _ _ ▸ h1).2
    split at hk
    · have : k = 0 ∨ k = 1 := by simp at hk; omega
      rcases this with rfl | rfl
      · exact k0
      · exact key 1 h1'
    · have : k = 0 := by simp at hk; omega
      subst this; exact k0
  · split at hk
    · rename_i h1
      simp only [Bool.and_eq_true] at h1
      split at hk
      · have : k = 0 ∨ k = 1 ∨ k = 2 := by simp at hk; omega
        rcases this with rfl | rfl | rfl
        · exact k0
        · exact key 1 (by simpa using h1.1.2)
        · exact key 2 (by simpa using h1.2)
      · have : k = 0 := by simp at hk; omega
        subst this; exact k0
    · split at hk
      · rename_i h1
        simp only [Bool.and_eq_true] at h1
        split at hk
        · have : k = 0 ∨ k = 1 ∨ k = 2 ∨ k = 3 := by simp at hk; omega
          rcases this with rfl | rfl | rfl | rfl
          · exact k0
          · exact key 1 (by simpa using h1.1.1.2)
          · exact key 2 (by simpa using h1.1.2)
          · exact key 3 (by simpa using h1.2)
        · have : k = 0 := by simp at hk; omega
          subst this; exact k0
      · have : k = 0 := by simp at hk; omega
        subst this; exact k0

theorem stopB_low {c : UInt8} (h : stopB c = true) : c.toNat < 128 := by
  unfold stopB at h
  simp only [Bool.or_eq_true, beq_iff_eq] at h
  omega

theorem all_take_add {p : UInt8 → Bool} {s : ByteArray} {k : Nat} (h1 : (s.data.toList.take k).all p = true) : ∀ m, (∀ j, j < m → ∃ hj : k + j < s.size, p s[k + j] = true) → (s.data.toList.take (k + m)).all p = true := by
  intro m
  induction m with
  | zero => intro _; exact h1
  | succ m ih =>
    intro h
    obtain ⟨hj, hp⟩ := h m (by omega)
    exact all_take_succ (k := k + m) hj (ih fun j hj => h j (by omega)) hp

/-- A rune further on. -/
theorem decode_skip {s : ByteArray} {p : Nat} (h : p < s.size) (h1 : (s.data.toList.take p).all (fun c => !stopB c) = true) (hr : ¬ ((Utf8.decode s p).1 < 128 ∧ stopB (UInt8.ofNat (Utf8.decode s p).1) = true)) :
    1 ≤ (Utf8.decode s p).2 ∧ p + (Utf8.decode s p).2 ≤ s.size ∧ (s.data.toList.take (p + (Utf8.decode s p).2)).all (fun c => !stopB c) = true := by
  by_cases ha : (s[p]).toNat < 128
  · have hd := decode_ascii s p h ha
    rw [hd] at hr ⊢
    refine ⟨Nat.le_refl _, h, all_take_succ h h1 ?_⟩
    simp at hr
    cases hs : stopB s[p]
    · rfl
    · exact absurd hs (by simpa using hr ha)
  · have hh := decode_high s p h (by omega)
    have hrest := decode_rest s p h (by omega)
    refine ⟨hh.2, ?_, all_take_add h1 _ fun j hj => ?_⟩
    · obtain ⟨hk, _⟩ := hrest ((Utf8.decode s p).2 - 1) (by omega)
      omega
    · obtain ⟨hk, h128⟩ := hrest j hj
      refine ⟨hk, ?_⟩
      cases hs : stopB s[p + j]
      · rfl
      · have := stopB_low hs; omega

theorem decode_hit {s : ByteArray} {p : Nat} (h : p < s.size) (h1 : (s.data.toList.take p).all (fun c => !stopB c) = true) (hr : (Utf8.decode s p).1 < 128 ∧ stopB (UInt8.ofNat (Utf8.decode s p).1) = true) :
    IdxIs stopB s p := by
  by_cases ha : (s[p]).toNat < 128
  · have hd := decode_ascii s p h ha
    rw [hd] at hr
    exact .inr ⟨p, rfl, h, by simpa using hr.2, h1⟩
  · have hh := decode_high s p h (by omega)
    omega

theorem ends_low : ∀ b ∈ endsB.data.toList, b.toNat < 128 := by decide
set_option maxRecDepth 100000 in
theorem ends_stop : ∀ c : UInt8, (0 ≤ Lib.indexByte endsB.data.toList c) ↔ stopB c = true := by
  intro c
  have e1 : stopB c = endsB.data.toList.any (fun x => x == c) := by
    have : ∀ n : Nat, n < 256 → stopB (UInt8.ofNat n) = endsB.data.toList.any (fun x => x == UInt8.ofNat n) := by decide
    have h := this c.toNat (by have := c.toNat_lt; omega)
    simpa using h
  rw [e1, List.any_eq_true]
  constructor
  · intro h
    obtain ⟨o, ho⟩ : ∃ o : Nat, Lib.indexByte endsB.data.toList c = o := ⟨(Lib.indexByte endsB.data.toList c).toNat, by omega⟩
    obtain ⟨h1, _⟩ := Lib.indexByte_some ho
    exact ⟨c, List.mem_of_getElem? h1, by simp⟩
  · rintro ⟨x, hx, hc⟩
    have hxc : x = c := by simpa using hc
    subst hxc
    have hge := Lib.indexByte_ge endsB.data.toList x
    by_cases h : Lib.indexByte endsB.data.toList x = -1
    · obtain ⟨k, hk⟩ := List.getElem?_of_mem hx
      exact absurd hk (Lib.indexByte_none h k)
    · omega

set_option maxRecDepth 100000 in
theorem stop_any (c : UInt8) : (endsB.data.toList.any fun x => x.toNat == c.toNat) = stopB c := by
  have : ∀ n : Nat, n < 256 → (endsB.data.toList.any fun x => x.toNat == n) = stopB (UInt8.ofNat n) := by decide
  have h := this c.toNat (by have := c.toNat_lt; omega)
  simpa using h
end Go.Proofs.YtimimkdgofiloaaGreatDoor
