/- Texts as lists of bytes: blanks, fields, numbers. No program in sight. -/
import Derived.Test.YtimimkdgofiloaaGreatDoorDa
import Derived.Test.YtimimkdgofiloaaGreatDoorQx
import Derived.Lib.IndexLaws
import Derived.Lib.ItoaNum
namespace Go.Proofs.YtimimkdgofiloaaGreatDoor
open Go Go.Q

def mkB (l : List UInt8) : ByteArray := ⟨l.toArray⟩
theorem mkB_data (l : List UInt8) : (mkB l).data.toList = l := by simp [mkB]
theorem mkB_size (l : List UInt8) : (mkB l).size = l.length := by simp [mkB, ByteArray.size]
theorem mkB_self (s : ByteArray) : mkB s.data.toList = s := by cases s; simp [mkB]
theorem mkB_inj {a b : List UInt8} : mkB a = mkB b ↔ a = b := ⟨fun h => by have := congrArg (fun s : ByteArray => s.data.toList) h; simpa [mkB] using this, fun h => by rw [h]⟩
theorem mkB_ext (l : List UInt8) (a b : Nat) : (mkB l).extract a b = mkB ((l.drop a).take (b - a)) := by
  apply ByteArray.ext
  apply Array.toList_inj.1
  simp [mkB, ByteArray.data_extract, List.extract]
theorem mkB_app (a b : List UInt8) : mkB a ++ mkB b = mkB (a ++ b) := by
  apply ByteArray.ext
  apply Array.toList_inj.1
  simp [mkB]
theorem mkB_get {l : List UInt8} {j : Nat} (h : j < (mkB l).size) : (mkB l)[j] = l[j]'(by rw [mkB_size] at h; exact h) := by
  have h' : j < l.length := by rw [mkB_size] at h; exact h
  show (mkB l).data[j] = _
  simp [mkB]
theorem mkB_nil : mkB [] = ⟨#[]⟩ := rfl
theorem mkB_emp {l : List UInt8} : mkB l = ByteArray.empty ↔ l = [] := by
  rw [show ByteArray.empty = mkB [] from rfl, mkB_inj]

/-! ### Blanks -/
def trimL (l : List UInt8) : List UInt8 := l.dropWhile (· == 32)
theorem trimL_yes {c : UInt8} {l : List UInt8} (h : c = 32) : trimL (c :: l) = trimL l := by subst h; rfl
theorem trimL_no {c : UInt8} {l : List UInt8} (h : c ≠ 32) : trimL (c :: l) = c :: l := by
  unfold trimL; rw [List.dropWhile_cons_of_neg (by simpa using h)]
/-- The fields between blanks, the empty ones too. -/
def splitL : List UInt8 → List (List UInt8)
  | [] => [[]]
  | c :: l => if c = 32 then [] :: splitL l else match splitL l with
    | h :: t => (c :: h) :: t
    | [] => [[c]]
theorem splitL_ne (l : List UInt8) : splitL l ≠ [] := by
  cases l with
  | nil => simp [splitL]
  | cons c l =>
    unfold splitL
    by_cases h : c = 32
    · rw [if_pos h]; simp
    · rw [if_neg h]; cases splitL l <;> simp
theorem splitL_len : ∀ l : List UInt8, (splitL l).length = Lib.countByte l 32 + 1
  | [] => rfl
  | c :: l => by
    have ih := splitL_len l
    rw [splitL]
    unfold Lib.countByte at *
    by_cases h : c = 32
    · subst h; rw [if_pos rfl, List.length_cons, ih, List.count_cons_self]
    · rw [if_neg h, List.count_cons_of_ne (fun e => h e)]
      cases he : splitL l with
      | nil => exact absurd he (splitL_ne l)
      | cons h' t => rw [he] at ih; simpa using ih
theorem splitL_none {l : List UInt8} (h : 32 ∉ l) : splitL l = [l] := by
  induction l with
  | nil => rfl
  | cons c l ih =>
    simp only [List.mem_cons, not_or] at h
    unfold splitL
    rw [if_neg (fun e => h.1 e.symm), ih h.2]
theorem splitL_app {a l : List UInt8} (h : 32 ∉ a) : splitL (a ++ 32 :: l) = a :: splitL l := by
  induction a with
  | nil => simp [splitL]
  | cons c a ih =>
    simp only [List.mem_cons, not_or] at h
    rw [List.cons_append, splitL, if_neg (fun e => h.1 e.symm), ih h.2]
/-- Where the first blank is. -/
theorem idx32 (l : List UInt8) : (Lib.indexByte l 32 = -1 ∧ 32 ∉ l) ∨ ∃ m : Nat, Lib.indexByte l 32 = (m : Int) ∧ m < l.length ∧ l = l.take m ++ 32 :: l.drop (m + 1) ∧ 32 ∉ l.take m := by
  have hge := Lib.indexByte_ge l 32
  rcases Int.lt_or_le (Lib.indexByte l 32) 0 with h | h
  · have h1 : Lib.indexByte l 32 = -1 := by omega
    refine .inl ⟨h1, fun hm => ?_⟩
    obtain ⟨k, hk⟩ := List.getElem?_of_mem hm
    exact Lib.indexByte_none h1 k hk
  · obtain ⟨m, hm⟩ := Int.eq_ofNat_of_zero_le h
    obtain ⟨h1, h2⟩ := Lib.indexByte_some hm
    have hlt : m < l.length := (List.getElem?_eq_some_iff.1 h1).1
    have hg : l[m] = 32 := (List.getElem?_eq_some_iff.1 h1).2
    refine .inr ⟨m, hm, hlt, ?_, fun hc => ?_⟩
    · conv => lhs; rw [← List.take_append_drop m l, List.drop_eq_getElem_cons hlt, hg]
    · obtain ⟨k, hk⟩ := List.getElem?_of_mem hc
      rw [List.getElem?_take] at hk
      split at hk
      · rename_i hkm; exact h2 k hkm hk
      · cases hk
/-- The fields that aren't empty. -/
def fieldsL (l : List UInt8) : List (List UInt8) := (splitL l).filter (fun f => !f.isEmpty)
theorem fieldsL_blank (l : List UInt8) : fieldsL (32 :: l) = fieldsL l := by simp [fieldsL, splitL]
theorem fieldsL_one {a : List UInt8} (h : 32 ∉ a) (hne : a ≠ []) : fieldsL a = [a] := by
  unfold fieldsL; rw [splitL_none h]; simp [hne]
theorem fieldsL_app {a l : List UInt8} (h : 32 ∉ a) (hne : a ≠ []) : fieldsL (a ++ 32 :: l) = a :: fieldsL l := by
  unfold fieldsL; rw [splitL_app h]; simp [hne]
/-- The word up to the first blank; what is behind it; whether there is one. -/
def cutL (l : List UInt8) : List UInt8 × List UInt8 × Bool :=
  if Lib.indexByte l 32 = -1 then (l, [], false) else (l.take (Lib.indexByte l 32).toNat, l.drop ((Lib.indexByte l 32).toNat + 1), true)
theorem cutL_app {a l : List UInt8} (h : 32 ∉ a) : cutL (a ++ 32 :: l) = (a, l, true) := by
  unfold cutL
  rcases idx32 (a ++ 32 :: l) with ⟨_, h2⟩ | ⟨m, hm, hlt, h3, h4⟩
  · exact absurd (by simp) h2
  · have hml : m = a.length := by
      rcases Nat.lt_trichotomy m a.length with h5 | h5 | h5
      · exfalso
        have : (a ++ 32 :: l)[m]? = some 32 := (Lib.indexByte_some hm).1
        rw [List.getElem?_append_left h5] at this
        exact h (List.mem_of_getElem? this)
      · exact h5
      · exfalso
        apply h4
        rw [List.take_append]
        apply List.mem_append_right
        have : m - a.length = (m - a.length - 1) + 1 := by omega
        rw [this, List.take_succ_cons]; simp
    rw [if_neg (by omega), hm, hml]
    simp
theorem cutL_none {l : List UInt8} (h : 32 ∉ l) : cutL l = (l, [], false) := by
  unfold cutL
  rcases idx32 l with ⟨h1, _⟩ | ⟨m, hm, hlt, h3, _⟩
  · rw [if_pos h1]
  · exact absurd (by rw [h3]; simp) h

/-! ### Numbers -/
def valL (l : List UInt8) : Int := l.foldl (fun n c => 10 * n + ((c.toNat : Int) - 48)) 0
theorem valL_snoc (l : List UInt8) (c : UInt8) : valL (l ++ [c]) = 10 * valL l + ((c.toNat : Int) - 48) := by simp [valL]
def isDig (c : UInt8) : Bool := decide (48 ≤ c.toNat) && decide (c.toNat ≤ 57)
theorem valL_bound : ∀ (n : Nat) (l : List UInt8), l.length = n → (∀ c ∈ l, isDig c = true) → 0 ≤ valL l ∧ valL l < 10 ^ n
  | 0, l, hl, _ => by obtain rfl := List.eq_nil_of_length_eq_zero hl; simp [valL]
  | n + 1, l, hl, hd => by
    obtain ⟨a, c, rfl⟩ : ∃ a c, l = a ++ [c] := ⟨l.dropLast, l.getLast (by intro e; rw [e] at hl; simp at hl), (List.dropLast_concat_getLast _).symm⟩
    have ih := valL_bound n a (by simpa using hl) fun x hx => hd x (List.mem_append_left _ hx)
    have hc := hd c (by simp)
    unfold isDig at hc
    simp only [Bool.and_eq_true, decide_eq_true_eq] at hc
    rw [valL_snoc, Int.pow_succ]
    omega
theorem dec_step {u : Nat} (h : ¬ u < 10) : Lib.decDigits u = Lib.decDigits (u / 10) ++ [UInt8.ofNat (48 + u % 10)] := by rw [Lib.decDigits, dif_neg h]
theorem dig_nat {k : Nat} (h : k < 10) : (UInt8.ofNat (48 + k)).toNat = 48 + k := by
  simp only [UInt8.toNat_ofNat']; omega
theorem dec_val : ∀ (n u : Nat), u ≤ n → valL (Lib.decDigits u) = (u : Int)
  | n, u, hu => by
    by_cases h : u < 10
    · rw [Lib.decDigits_one h]
      simp only [valL, List.foldl_cons, List.foldl_nil]
      rw [dig_nat h]; omega
    · cases n with
      | zero => omega
      | succ n =>
        rw [dec_step h, valL_snoc, dec_val n (u / 10) (by omega), dig_nat (by omega)]
        omega
theorem dec_dig : ∀ (n u : Nat), u ≤ n → ∀ c ∈ Lib.decDigits u, isDig c = true
  | n, u, hu, c, hc => by
    by_cases h : u < 10
    · rw [Lib.decDigits_one h] at hc
      obtain rfl := List.mem_singleton.1 hc
      unfold isDig; rw [dig_nat h]; simp; omega
    · cases n with
      | zero => omega
      | succ n =>
        rw [dec_step h] at hc
        rcases List.mem_append.1 hc with h1 | h1
        · exact dec_dig n (u / 10) (by omega) c h1
        · obtain rfl := List.mem_singleton.1 h1
          unfold isDig; rw [dig_nat (by omega)]; simp; omega
theorem dec_ne (u : Nat) : Lib.decDigits u ≠ [] := by
  by_cases h : u < 10
  · rw [Lib.decDigits_one h]; simp
  · rw [dec_step h]; simp
theorem dec_head : ∀ (n u : Nat), u ≤ n → 0 < u → (Lib.decDigits u).head? ≠ some 48
  | n, u, hu, h0 => by
    by_cases h : u < 10
    · rw [Lib.decDigits_one h]
      simp only [List.head?_cons, ne_eq, Option.some.injEq]
      intro e
      have := congrArg UInt8.toNat e
      rw [dig_nat h] at this
      have h48 : (48 : UInt8).toNat = 48 := rfl
      omega
    · cases n with
      | zero => omega
      | succ n =>
        rw [dec_step h, List.head?_append]
        have ih := dec_head n (u / 10) (by omega) (by omega)
        cases hh : (Lib.decDigits (u / 10)).head? with
        | none => exact absurd (List.head?_eq_none_iff.1 hh) (dec_ne _)
        | some c => rw [hh] at ih; simpa using ih
theorem dec_len_le {u : Nat} (h : u ≤ 2147483647) : (Lib.decDigits u).length ≤ 10 := by
  have hb := valL_bound _ (Lib.decDigits u) rfl (dec_dig u u (Nat.le_refl _))
  by_cases hl : (Lib.decDigits u).length ≤ 10
  · exact hl
  · exfalso
    have key : ∀ (n : Nat) (l : List UInt8), l.length = n + 1 → (∀ c ∈ l, isDig c = true) → l.head? ≠ some 48 → (10 : Int) ^ n ≤ valL l := by
      intro n
      induction n with
      | zero =>
        intro l hl hd hh
        match l, hl with
        | [c], _ =>
          have hc := hd c (by simp)
          unfold isDig at hc
          simp only [Bool.and_eq_true, decide_eq_true_eq] at hc
          have hne : c ≠ 48 := fun e => hh (by rw [e]; rfl)
          have : c.toNat ≠ 48 := fun e => hne (UInt8.toNat_inj.1 (by rw [e]; rfl))
          simp only [valL, List.foldl_cons, List.foldl_nil]; omega
      | succ n ih =>
        intro l hl hd hh
        obtain ⟨a, c, rfl⟩ : ∃ a c, l = a ++ [c] := ⟨l.dropLast, l.getLast (by intro e; rw [e] at hl; simp at hl), (List.dropLast_concat_getLast _).symm⟩
        have hal : a.length = n + 1 := by simpa using hl
        have := ih a hal (fun x hx => hd x (List.mem_append_left _ hx)) (by
          cases a with
          | nil => simp at hal
          | cons q a => simpa using hh)
        have hc := hd c (by simp)
        unfold isDig at hc
        simp only [Bool.and_eq_true, decide_eq_true_eq] at hc
        rw [valL_snoc, Int.pow_succ]; omega
    rcases Nat.eq_zero_or_pos u with h0 | h0
    · subst h0; rw [Lib.decDigits_one (by omega)] at hl; simp at hl
    · obtain ⟨m, hm⟩ : ∃ m, (Lib.decDigits u).length = (m + 10) + 1 := ⟨(Lib.decDigits u).length - 11, by omega⟩
      have hk := key (m + 10) _ hm (dec_dig u u (Nat.le_refl _)) (dec_head u u (Nat.le_refl _) h0)
      rw [dec_val u u (Nat.le_refl _)] at hk
      have hp : (10 : Int) ^ 10 ≤ 10 ^ (m + 10) := by
        rw [Int.pow_add]
        have h1 : 1 ≤ 10 ^ m := Nat.one_le_pow m 10 (by omega)
        have : (1 : Int) ≤ 10 ^ m := by exact_mod_cast h1
        omega
      omega
end Go.Proofs.YtimimkdgofiloaaGreatDoor
