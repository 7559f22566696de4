/- Who fits: the document's way up, and that it is the program's. No program in sight. -/
import Derived.Test.YtlibfaghiogekaaDg
namespace Go.Proofs.Ytlibfaghiogekaa
open Go Go.Q

/-- Is it so of a list, or of what is behind some of its first? -/
def anyTail (f : List Tr → Bool) : List Tr → Bool
  | [] => f []
  | t :: w => f (t :: w) || anyTail f w
/-- Do parts, the last one first, fit a node and those above it, the next one first? -/
def fitsV : List SPart → List Tr → Bool
  | [], _ => false
  | _ :: _, [] => false
  | p :: ps, t :: w => t.fits p && (ps.isEmpty || (if p.child = true then fitsV ps w else anyTail (fitsV ps) w))

mutual
/-- The document's listing: of a node, with those above it, the next one first. -/
def allV (ps : List SPart) : Tr → List Tr → List Int
  | .mk id kind tag text cl at' st kids, up =>
    (if fitsV ps.reverse (.mk id kind tag text cl at' st kids :: up) = true then [id] else []) ++ kidsAllV ps kids (.mk id kind tag text cl at' st kids :: up)
def kidsAllV (ps : List SPart) : List Tr → List Tr → List Int
  | [], _ => []
  | t :: l, up => allV ps t up ++ kidsAllV ps l up
end

/-- Which beginnings fit up here. -/
def parB (ps : List SPart) (up : List Tr) : List Bool := (List.range ps.length).map fun i => fitsV (ps.take (i + 1)).reverse up
def abvB (ps : List SPart) (up : List Tr) : List Bool := (List.range ps.length).map fun i => anyTail (fitsV (ps.take (i + 1)).reverse) up

theorem take_rev {ps : List SPart} {i : Nat} (h : i < ps.length) : (ps.take (i + 1)).reverse = ps[i] :: (ps.take i).reverse := by
  rw [List.take_add_one, List.getElem?_eq_getElem h]
  simp

theorem here_par (ps : List SPart) (t : Tr) (up : List Tr) : hereB ps t (parB ps up) (abvB ps up) = parB ps (t :: up) := by
  apply List.ext_getElem?
  intro i
  rcases Nat.lt_or_ge i ps.length with h | h
  · rw [hereB_get ps t _ _ h]
    unfold parB
    rw [List.getElem?_map, List.getElem?_range h]
    simp only [Option.map_some]
    rw [take_rev h, fitsV]
    have hg : ps.getD i noP = ps[i] := by rw [List.getD_eq_getElem?_getD, List.getElem?_eq_getElem h]; rfl
    unfold aheadB
    rw [hg]
    congr 1
    by_cases h0 : i = 0
    · subst h0
      simp
    · have hne : (ps.take i).reverse.isEmpty = false := by
        have : (ps.take i).reverse.length ≠ 0 := by rw [List.length_reverse, List.length_take]; omega
        cases hh : (ps.take i).reverse with
        | nil => rw [hh] at this; simp at this
        | cons _ _ => rfl
      have h1 : i - 1 < ps.length := by omega
      have h2 : i - 1 + 1 = i := by omega
      rw [if_neg h0, hne, Bool.false_or]
      have hp : (List.map (fun i => fitsV (ps.take (i + 1)).reverse up) (List.range ps.length)).getD (i - 1) false = fitsV (ps.take i).reverse up := by
        rw [List.getD_eq_getElem?_getD, List.getElem?_map, List.getElem?_range h1]
        simp [h2]
      have ha : (abvB ps up).getD (i - 1) false = anyTail (fitsV (ps.take i).reverse) up := by
        unfold abvB
        rw [List.getD_eq_getElem?_getD, List.getElem?_map, List.getElem?_range h1]
        simp [h2]
      rw [hp, ha, Bool.and_comm]
  · rw [List.getElem?_eq_none (by rw [hereB_len]; exact h), List.getElem?_eq_none (by simp [parB]; exact h)]

theorem with_abv (ps : List SPart) (t : Tr) (up : List Tr) : withB (abvB ps up) (parB ps (t :: up)) = abvB ps (t :: up) := by
  apply List.ext_getElem?
  intro i
  rcases Nat.lt_or_ge i ps.length with h | h
  · rw [withB_get (by simp [abvB]; exact h) (by simp [parB]; exact h)]
    unfold abvB parB
    rw [List.getElem?_map, List.getElem?_range h]
    simp [anyTail, Bool.or_comm]
  · rw [List.getElem?_eq_none (by rw [withB_len]; simp [abvB, parB]; exact h), List.getElem?_eq_none (by simp [abvB]; exact h)]

theorem fitsV_nil : ∀ ps : List SPart, fitsV ps [] = false
  | [] => rfl
  | _ :: _ => rfl

theorem parB_last (ps : List SPart) (up : List Tr) : ((parB ps up).getLast? = some true) ↔ fitsV ps.reverse up = true := by
  cases hn : ps.length with
  | zero =>
    have : ps = [] := List.eq_nil_of_length_eq_zero hn
    subst this
    simp [parB, fitsV]
  | succ n =>
    rw [List.getLast?_eq_getElem?]
    have hl : (parB ps up).length = n + 1 := by simp [parB, hn]
    rw [hl]
    unfold parB
    rw [List.getElem?_map, List.getElem?_range (by omega)]
    simp only [Option.map_some, Nat.add_sub_cancel]
    rw [← hn, List.take_length]
    simp

mutual
theorem down_all (ps : List SPart) : ∀ (t : Tr) (up : List Tr), downM ps t (parB ps up) (abvB ps up) = allV ps t up
  | .mk id kind tag text cl at' st kids, up => by
    rw [downM, allV, here_par, with_abv, kidsDown_all ps kids]
    congr 1
    by_cases h : fitsV ps.reverse (.mk id kind tag text cl at' st kids :: up) = true
    · rw [if_pos h, if_pos ((parB_last ps _).2 h)]
    · rw [if_neg h, if_neg (fun hh => h ((parB_last ps _).1 hh))]
theorem kidsDown_all (ps : List SPart) : ∀ (l : List Tr) (up : List Tr), kidsDown ps l (parB ps up) (abvB ps up) = kidsAllV ps l up
  | [], _ => rfl
  | t :: l, up => by rw [kidsDown, kidsAllV, down_all ps t up, kidsDown_all ps l up]
end

theorem allM_eq (ps : List SPart) (t : Tr) : allM ps t = allV ps t [] := by
  have h1 : parB ps [] = List.replicate ps.length false := by
    unfold parB
    simp only [fitsV_nil]
    rw [List.map_const', List.length_range]
  have h2 : abvB ps [] = List.replicate ps.length false := by
    unfold abvB
    simp only [anyTail, fitsV_nil]
    rw [List.map_const', List.length_range]
  rw [← down_all, h1, h2]
  rfl
end Go.Proofs.Ytlibfaghiogekaa
