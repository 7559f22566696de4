/- Trees whose nodes are numbered one behind the other. No program in sight. -/
import Derived.Test.YtimimkdgofiloaaGreatDi
namespace Go.Proofs.YtimimkdgofiloaaGreat
open Go Go.Q
mutual
/-- The nodes' numbers are n, n + 1, .. each ahead of what is below it. -/
def Tr.seq : Tr → Int → Prop
  | .mk id _ _ _ _ _ _ kids, n => id = n ∧ kidsSeq kids (n + 1)
def kidsSeq : List Tr → Int → Prop
  | [], _ => True
  | t :: l, n => t.seq n ∧ kidsSeq l (n + (t.size : Int))
end
theorem kidsSeq_snoc {t : Tr} : ∀ {l : List Tr} {n : Int}, kidsSeq l n → t.seq (n + (kidsSize l : Int)) → kidsSeq (l ++ [t]) n
  | [], n, _, h => ⟨by simpa [kidsSize] using h, trivial⟩
  | u :: l, n, ⟨h1, h2⟩, h => ⟨h1, kidsSeq_snoc (l := l) h2 (by
      have e : n + ((u :: l : List Tr) |> kidsSize : Nat) = n + (u.size : Int) + (kidsSize l : Int) := by simp only [kidsSize]; omega
      rw [← e]; exact h)⟩
/-- Rising numbers from n on, below m. -/
def Rise (l : List Int) (n m : Int) : Prop := l.Pairwise (· < ·) ∧ ∀ x ∈ l, n ≤ x ∧ x < m
theorem Rise.nil (n m : Int) : Rise [] n m := ⟨List.Pairwise.nil, by simp⟩
theorem Rise.cons {l : List Int} {n m : Int} (h : Rise l (n + 1) m) (hm : n < m) : Rise (n :: l) n m :=
  ⟨List.pairwise_cons.2 ⟨fun x hx => by have := h.2 x hx; omega, h.1⟩, fun x hx => by
    rcases List.mem_cons.1 hx with rfl | h1
    · omega
    · have := h.2 x h1; omega⟩
theorem Rise.mono {l : List Int} {n m n' m' : Int} (h : Rise l n m) (h1 : n' ≤ n) (h2 : m ≤ m') : Rise l n' m' := ⟨h.1, fun x hx => by have := h.2 x hx; omega⟩
theorem Rise.append {a b : List Int} {n m p : Int} (ha : Rise a n m) (hb : Rise b m p) (h1 : n ≤ m) (h2 : m ≤ p) : Rise (a ++ b) n p :=
  ⟨List.pairwise_append.2 ⟨ha.1, hb.1, fun x hx y hy => by have := ha.2 x hx; have := hb.2 y hy; omega⟩, fun x hx => by
    rcases List.mem_append.1 hx with h | h
    · have := ha.2 x h; omega
    · have := hb.2 x h; omega⟩
theorem Rise.nodup {l : List Int} {n m : Int} (h : Rise l n m) : l.Nodup := h.1.imp fun {a b} (hab : a < b) => show a ≠ b by omega
mutual
theorem down_rise (ps : List SPart) : ∀ (t : Tr) (n : Int) (par abv : List Bool), t.seq n → Rise (downM ps t par abv) n (n + (t.size : Int))
  | .mk id kind tag text cl at' st kids, n, par, abv, ⟨h1, h2⟩ => by
    subst h1
    have h := kidsDown_rise ps kids (id + 1) (hereB ps (.mk id kind tag text cl at' st kids) par abv) (withB abv (hereB ps (.mk id kind tag text cl at' st kids) par abv)) h2
    have hs : (id + ((Tr.mk id kind tag text cl at' st kids).size : Int)) = id + 1 + (kidsSize kids : Int) := by simp only [Tr.size]; omega
    rw [hs, downM]
    split
    · exact Rise.cons h (by omega)
    · exact h.mono (by omega) (Int.le_refl _)
theorem kidsDown_rise (ps : List SPart) : ∀ (l : List Tr) (n : Int) (h w : List Bool), kidsSeq l n → Rise (kidsDown ps l h w) n (n + (kidsSize l : Int))
  | [], n, _, _, _ => Rise.nil _ _
  | t :: l, n, h, w, ⟨h1, h2⟩ => by
    have a := down_rise ps t n h w h1
    have b := kidsDown_rise ps l (n + (t.size : Int)) h w h2
    have hs : n + (kidsSize (t :: l) : Int) = n + (t.size : Int) + (kidsSize l : Int) := by simp only [kidsSize]; omega
    rw [kidsDown, hs]
    exact a.append b (by omega) (by omega)
end
theorem allM_rise (ps : List SPart) (t : Tr) {n : Int} (h : t.seq n) : Rise (allM ps t) n (n + (t.size : Int)) := down_rise ps t n _ _ h
end Go.Proofs.YtimimkdgofiloaaGreat
