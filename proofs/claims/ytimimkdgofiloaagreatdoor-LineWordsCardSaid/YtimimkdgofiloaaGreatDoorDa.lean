/- Data: strings and bytes, as the program's and the document's predicates see them. No program in sight. -/
import Derived.Test.YtimimkdgofiloaaGreatDoorQi
namespace Go.Proofs.YtimimkdgofiloaaGreatDoor
open Go Go.Q

abbrev B8 (c : UInt8) : SV := .c (.d (.i .u8 (c.toNat : Int)))
abbrev S_ (s : ByteArray) : SV := .c (.d (.s s))
abbrev N_ (n : Int) : SV := .c (.d (.i .i64 n))
abbrev Bo (b : Bool) : SV := .c (.d (.b b))
abbrev L_ (sz : Nat) (es : List (List D)) : SV := .c (.d (.l sz es))
abbrev P_ (b o : Nat) : SV := .c (.p b o)
abbrev R_ (v : Value) : SV := .c (.r v)

/-- Nothing owned is left, and the result is this. -/
abbrev Just (x : AV) : AV → List Ob → Prop := fun r Ω => Ω = [] ∧ r = x

def letterB (c : UInt8) : Bool := decide ((97 : Int) ≤ (c.toNat : Int)) && decide ((c.toNat : Int) ≤ 122)
def digitB (c : UInt8) : Bool := decide ((48 : Int) ≤ (c.toNat : Int)) && decide ((c.toNat : Int) ≤ 57)
def plainB (c : UInt8) : Bool := letterB c || digitB c || (c.toNat : Int) == 45
def visibleB (c : UInt8) : Bool := decide ((32 : Int) < (c.toNat : Int)) && decide ((c.toNat : Int) ≤ 126) && (c.toNat : Int) != 39 && (c.toNat : Int) != 40 && (c.toNat : Int) != 41
def stopB (c : UInt8) : Bool := (c.toNat : Int) == 32 || (c.toNat : Int) == 62 || (c.toNat : Int) == 46 || (c.toNat : Int) == 91 || (c.toNat : Int) == 93 || (c.toNat : Int) == 61

/-- Is each byte so? -/
def allB (p : UInt8 → Bool) (s : ByteArray) : Bool := s.data.toList.all p

def keyB (s : ByteArray) : Bool := decide (s.size ≠ 0) && decide (s.size ≤ 16) && allB plainB s
def nameB (s : ByteArray) : Bool := keyB s && (match s.data.toList with | c :: _ => letterB c | [] => false)
def valueB (s : ByteArray) : Bool := decide (s.size ≤ 32) && allB visibleB s

theorem size_list (s : ByteArray) : s.data.toList.length = s.size := by simp

theorem get_list (s : ByteArray) (k : Nat) (h : k < s.size) : s.data.toList[k]? = some s[k] := by
  rw [Array.getElem?_toList]
  exact Array.getElem?_eq_getElem h

theorem take_snoc (s : ByteArray) (k : Nat) (h : k < s.size) : s.data.toList.take (k + 1) = s.data.toList.take k ++ [s[k]] := by
  rw [List.take_add_one, get_list s k h]; rfl

theorem all_take_succ {p : UInt8 → Bool} {s : ByteArray} {k : Nat} (h : k < s.size) (h1 : (s.data.toList.take k).all p = true) (h2 : p s[k] = true) : (s.data.toList.take (k + 1)).all p = true := by
  rw [take_snoc s k h, List.all_append, h1]; simp [h2]

theorem allB_done {p : UInt8 → Bool} {s : ByteArray} {k : Nat} (h : s.size ≤ k) (h1 : (s.data.toList.take k).all p = true) : allB p s = true := by
  rw [List.take_of_length_le (by rw [size_list]; exact h)] at h1; exact h1

theorem allB_no {p : UInt8 → Bool} {s : ByteArray} {k : Nat} (h : k < s.size) (h2 : p s[k] = false) : allB p s = false := by
  unfold allB
  rw [List.all_eq_false]
  refine ⟨s[k], ?_, by simp [h2]⟩
  exact List.mem_of_getElem? (get_list s k h)

theorem empty_iff (s : ByteArray) : s = ⟨#[]⟩ ↔ s.size = 0 := by
  constructor
  · intro h; subst h; rfl
  · intro h
    cases s with
    | mk d =>
      have : d.size = 0 := h
      rw [Array.eq_empty_of_size_eq_zero this]

theorem emp : (⟨#[]⟩ : ByteArray) = ByteArray.empty := rfl

theorem empty_iff2 (s : ByteArray) : s = ByteArray.empty ↔ s.size = 0 := empty_iff s

theorem head_get (s : ByteArray) (h : 0 < s.size) : ∃ r, s.data.toList = s[0] :: r := by
  have h1 := get_list s 0 h
  cases hl : s.data.toList with
  | nil => rw [hl] at h1; simp at h1
  | cons c r => rw [hl] at h1; simp at h1; exact ⟨r, by rw [h1]⟩

theorem keyB_pos {s : ByteArray} (h : keyB s = true) : 0 < s.size := by
  unfold keyB at h
  simp only [Bool.and_eq_true, decide_eq_true_eq] at h
  omega

/-- A name in words: as the document's has it. -/
theorem nameB_ref (s : ByteArray) (h : keyB s = true) (h0 : 0 < s.size) : (match s.data.toList with | c :: _ => letterB c | [] => false) = decide ((97 : Int) ≤ (s[0].toNat : Int)) := by
  obtain ⟨r, hr⟩ := head_get s h0
  rw [hr]
  unfold keyB allB at h
  rw [hr] at h
  simp only [Bool.and_eq_true, List.all_cons] at h
  have hp := h.2.1
  unfold plainB letterB digitB at hp
  unfold letterB
  simp only [Bool.or_eq_true, Bool.and_eq_true, decide_eq_true_eq, beq_iff_eq] at hp
  by_cases h1 : (97 : Int) ≤ (s[0].toNat : Int)
  · have : (s[0].toNat : Int) ≤ 122 := by omega
    simp [h1, this]
  · simp [h1]

def strs (l : List ByteArray) : List (List D) := l.map fun s => [D.s s]
def ints (l : List Int) : List (List D) := l.map fun n => [D.i .i64 n]
def bools (l : List Bool) : List (List D) := l.map fun b => [D.b b]

theorem strs_get {l : List ByteArray} {k : Nat} (h : k < l.length) : (strs l)[k]? = some [D.s l[k]] := by simp [strs, h]
theorem ints_get {l : List Int} {k : Nat} (h : k < l.length) : (ints l)[k]? = some [D.i .i64 l[k]] := by simp [ints, h]
theorem bools_get {l : List Bool} {k : Nat} (h : k < l.length) : (bools l)[k]? = some [D.b l[k]] := by simp [bools, h]
@[simp] theorem strs_len (l : List ByteArray) : (strs l).length = l.length := by simp [strs]
@[simp] theorem ints_len (l : List Int) : (ints l).length = l.length := by simp [ints]
@[simp] theorem bools_len (l : List Bool) : (bools l).length = l.length := by simp [bools]

end Go.Proofs.YtimimkdgofiloaaGreatDoor
namespace Go.Proofs.YtimimkdgofiloaaGreatDoor
open Go Go.Q

theorem ext_all (s : ByteArray) (n : Nat) (h : s.size ≤ n) : s.extract 0 n = s := by
  cases s with
  | mk d =>
    have h' : d.size ≤ n := h
    apply ByteArray.ext
    simp [h']

/-- The place behind the blanks from a place on. -/
def blanksL : List UInt8 → Nat
  | c :: r => if (c.toNat : Int) == 32 then blanksL r + 1 else 0
  | [] => 0
def blanksN (s : ByteArray) (a : Nat) : Nat := a + blanksL (s.data.toList.drop a)

theorem drop_get (s : ByteArray) (k : Nat) (h : k < s.size) : s.data.toList.drop k = s[k] :: s.data.toList.drop (k + 1) := by
  have h' : k < s.data.toList.length := by rw [size_list]; exact h
  rw [List.drop_eq_getElem_cons h']
  rfl

theorem blanksN_yes {s : ByteArray} {k : Nat} (h : k < s.size) (hc : (s[k].toNat : Int) = 32) : blanksN s k = blanksN s (k + 1) := by
  unfold blanksN
  rw [drop_get s k h, blanksL, if_pos (by simpa using hc)]
  omega
theorem blanksN_no {s : ByteArray} {k : Nat} (h : k < s.size) (hc : ¬ (s[k].toNat : Int) = 32) : blanksN s k = k := by
  unfold blanksN
  rw [drop_get s k h, blanksL, if_neg (by simpa using hc)]
  omega
theorem blanksN_end {s : ByteArray} {k : Nat} (h : s.size ≤ k) : blanksN s k = k := by
  unfold blanksN
  rw [List.drop_eq_nil_of_le (by rw [size_list]; exact h), blanksL]
  omega

end Go.Proofs.YtimimkdgofiloaaGreatDoor
namespace Go.Proofs.YtimimkdgofiloaaGreatDoor
open Go Go.Q

/-- Pairs of a text and a number; of two texts. -/
def prs (l : List (ByteArray × Int)) : List (List D) := l.map fun p => [D.s p.1, D.i .i64 p.2]
def ats (l : List (ByteArray × ByteArray)) : List (List D) := l.map fun p => [D.s p.1, D.s p.2]
theorem prs_get {l : List (ByteArray × Int)} {k : Nat} (h : k < l.length) : (prs l)[k]? = some [D.s l[k].1, D.i .i64 l[k].2] := by simp [prs, h]
theorem ats_get {l : List (ByteArray × ByteArray)} {k : Nat} (h : k < l.length) : (ats l)[k]? = some [D.s l[k].1, D.s l[k].2] := by simp [ats, h]
@[simp] theorem prs_len (l : List (ByteArray × Int)) : (prs l).length = l.length := by simp [prs]
@[simp] theorem ats_len (l : List (ByteArray × ByteArray)) : (ats l).length = l.length := by simp [ats]

theorem take_map_snoc {α β : Type} (f : α → β) (l : List α) (k : Nat) (h : k < l.length) : (l.take (k + 1)).map f = (l.take k).map f ++ [f l[k]] := by
  rw [List.take_add_one, List.getElem?_eq_getElem h, List.map_append]; rfl

def cutS (n : Nat) (s : ByteArray) : ByteArray := s.extract 0 n
def few (l : List ByteArray) (n : Nat) : List ByteArray := (l.take n).map (cutS 20)
def fewP (l : List (ByteArray × Int)) (n : Nat) : List (ByteArray × Int) := (l.take n).map fun p => (cutS 20 p.1, p.2)

theorem strs_snoc (l : List ByteArray) (x : ByteArray) : strs (l ++ [x]) = strs l ++ [[D.s x]] := by simp [strs]
theorem prs_snoc (l : List (ByteArray × Int)) (x : ByteArray × Int) : prs (l ++ [x]) = prs l ++ [[D.s x.1, D.i .i64 x.2]] := by simp [prs]
theorem ats_snoc (l : List (ByteArray × ByteArray)) (x : ByteArray × ByteArray) : ats (l ++ [x]) = ats l ++ [[D.s x.1, D.s x.2]] := by simp [ats]

theorem eq_take_step {a b : List Int} {k : Nat} (hl : a.length = b.length) (h : k < a.length) (he : a.take k = b.take k) (hk : a[k] = b[k]'(by omega)) : a.take (k + 1) = b.take (k + 1) := by
  rw [List.take_add_one, List.take_add_one, List.getElem?_eq_getElem h, List.getElem?_eq_getElem (by omega), he, hk]

/-- Are all of the first list in the second? -/
def withinB (a b : List Int) : Bool := a.all fun x => b.any fun y => y == x

theorem bytes_fit (a : ByteArray) (x y : Nat) : (a.extract x y).size ≤ a.size := by simp [ByteArray.size_extract]; omega
end Go.Proofs.YtimimkdgofiloaaGreatDoor
