/- Nodes of a tree, and what fits. No program in sight. -/
import Derived.Test.YtimimkdgofiloaaGreatDc
import Derived.Test.YtimimkdgofiloaaGreatDe
namespace Go.Proofs.YtimimkdgofiloaaGreat
open Go Go.Q

/-- A node's cells; its kids as they lie. -/
def nodeD (id kind : Int) (tag text : ByteArray) (cl : List ByteArray) (at' : List (ByteArray × ByteArray)) (st : List (ByteArray × Int)) (ks : List (List D)) : List D :=
  [.i .i64 id, .i .i64 kind, .s tag, .s text, .l 1 (strs cl), .l 2 (ats at'), .l 2 (prs st), .l 8 ks]
def nodeC (id kind : Int) (tag text : ByteArray) (cl : List ByteArray) (at' : List (ByteArray × ByteArray)) (st : List (ByteArray × Int)) (ks : List (List D)) : List CV :=
  [.d (.i .i64 id), .d (.i .i64 kind), .d (.s tag), .d (.s text), .d (.l 1 (strs cl)), .d (.l 2 (ats at')), .d (.l 2 (prs st)), .d (.l 8 ks)]

/-- Has a node an attribute that is asked for? -/
def hasB (at' : List (ByteArray × ByteArray)) (q : ByteArray × ByteArray × Bool) : Bool :=
  match getM at' q.1 with
  | some w => q.2.2 || decide (w = q.2.1)
  | none => false
def tagB (tag : ByteArray) (p : SPart) : Bool := decide (p.tag = ByteArray.empty) || decide (p.tag = starB) || decide (p.tag = tag)
def fitsB (kind : Int) (tag : ByteArray) (cl : List ByteArray) (at' : List (ByteArray × ByteArray)) (p : SPart) : Bool :=
  decide (kind = 2) && tagB tag p && (p.classes.all fun c => cl.any fun y => decide (y = c)) && p.pairs.all (hasB at')

theorem idx_any {α : Type} (p : α → Bool) (l : List α) : (∃ k, ∃ h : k < l.length, p l[k] = true) → l.any p = true := by
  rintro ⟨k, h, hp⟩
  rw [List.any_eq_true]
  exact ⟨l[k], List.getElem_mem h, hp⟩
/-- The document's way: any attribute of that name. -/
def hasR (q : ByteArray × ByteArray × Bool) (x : ByteArray × ByteArray) : Bool := decide (x.1 = q.1) && (q.2.2 || decide (x.2 = q.2.1))
theorem hasR_eq {at' : List (ByteArray × ByteArray)} (h : Srt at') (q : ByteArray × ByteArray × Bool) : at'.any (hasR q) = hasB at' q := by
  induction at' with
  | nil => rfl
  | cons x l ih =>
    have hh := h
    unfold Srt at hh
    rw [List.pairwise_cons] at hh
    have ih := ih hh.2
    rw [List.any_cons]
    by_cases hx : x.1 = q.1
    · have hno : l.any (hasR q) = false := by
        rw [List.any_eq_false]
        intro y hy hr
        unfold hasR at hr
        simp only [Bool.and_eq_true, decide_eq_true_eq] at hr
        have := hh.1 y hy
        rw [hx, hr.1, lt_irr] at this
        cases this
      rw [hno]
      unfold hasB getM hasR
      simp [hx]
    · rw [ih]
      have h1 : hasR q x = false := by unfold hasR; simp [hx]
      rw [h1]
      unfold hasB getM
      simp [hx]
end Go.Proofs.YtimimkdgofiloaaGreat
