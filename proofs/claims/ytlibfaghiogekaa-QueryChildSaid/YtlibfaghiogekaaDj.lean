/- How a selector is written. No program in sight. -/
import Derived.Test.YtlibfaghiogekaaDg
namespace Go.Proofs.Ytlibfaghiogekaa
open Go Go.Q
abbrev lbB : ByteArray := ⟨#[91]⟩
abbrev rbB : ByteArray := ⟨#[93]⟩
abbrev eqB : ByteArray := ⟨#[61]⟩
abbrev dotB : ByteArray := ⟨#[46]⟩
abbrev spB : ByteArray := ⟨#[32]⟩
abbrev gtB : ByteArray := ⟨#[32, 62, 32]⟩
def clsT (t : ByteArray) (l : List ByteArray) : ByteArray := l.foldl (fun s c => s ++ (dotB ++ c)) t
def prT (s : ByteArray) (q : ByteArray × ByteArray × Bool) : ByteArray := if q.2.2 = true then (s ++ (lbB ++ q.1)) ++ rbB else ((s ++ (lbB ++ q.1)) ++ (eqB ++ q.2.1)) ++ rbB
def prsT (t : ByteArray) (l : List (ByteArray × ByteArray × Bool)) : ByteArray := l.foldl prT t
def partT (p : SPart) : ByteArray := if (prsT (clsT p.tag p.classes) p.pairs).size = 0 then ⟨#[42]⟩ else prsT (clsT p.tag p.classes) p.pairs
def sepT (s : ByteArray) (k : Nat) (p : SPart) : ByteArray := if k = 0 then s else if p.child = true then s ++ gtB else s ++ spB
def selT (ps : List SPart) : Nat → ByteArray
  | 0 => ByteArray.empty
  | k + 1 => sepT (selT ps k) k (ps.getD k noP) ++ partT (ps.getD k noP)

def lenC (l : List ByteArray) : Nat := (l.map fun c => c.size + 1).sum
def lenP (l : List (ByteArray × ByteArray × Bool)) : Nat := (l.map fun q => q.1.size + q.2.1.size + 3).sum
/-- A bound on what a part's text takes. -/
def SPart.len (p : SPart) : Nat := p.tag.size + lenC p.classes + lenP p.pairs + 1

theorem clsT_snoc (t : ByteArray) (l : List ByteArray) (c : ByteArray) : clsT t (l ++ [c]) = clsT t l ++ (dotB ++ c) := by simp [clsT]
theorem prsT_snoc (t : ByteArray) (l : List (ByteArray × ByteArray × Bool)) (q : ByteArray × ByteArray × Bool) : prsT t (l ++ [q]) = prT (prsT t l) q := by simp [prsT]
theorem clsT_size : ∀ (l : List ByteArray) (t : ByteArray), (clsT t l).size = t.size + lenC l
  | [], t => by simp [clsT, lenC]
  | c :: l, t => by
    have := clsT_size l (t ++ (dotB ++ c))
    simp only [clsT, List.foldl_cons] at this ⊢
    rw [this]
    have h1 : dotB.size = 1 := rfl
    simp only [lenC, List.map_cons, List.sum_cons, ByteArray.size_append, h1]
    omega
theorem prT_size (s : ByteArray) (q : ByteArray × ByteArray × Bool) : (prT s q).size ≤ s.size + (q.1.size + q.2.1.size + 3) := by
  have h1 : lbB.size = 1 := rfl
  have h2 : rbB.size = 1 := rfl
  have h3 : eqB.size = 1 := rfl
  unfold prT
  split <;> simp only [ByteArray.size_append, h1, h2, h3] <;> omega
theorem prsT_size : ∀ (l : List (ByteArray × ByteArray × Bool)) (t : ByteArray), (prsT t l).size ≤ t.size + lenP l
  | [], t => by simp [prsT, lenP]
  | q :: l, t => by
    have := prsT_size l (prT t q)
    have h2 := prT_size t q
    simp only [prsT, List.foldl_cons] at this ⊢
    simp only [lenP, List.map_cons, List.sum_cons] at this ⊢
    omega
theorem lenC_app (a b : List ByteArray) : lenC (a ++ b) = lenC a + lenC b := by simp [lenC]
theorem lenC_cons (a : ByteArray) (b : List ByteArray) : lenC (a :: b) = a.size + 1 + lenC b := by simp [lenC]
theorem lenP_app (a b : List (ByteArray × ByteArray × Bool)) : lenP (a ++ b) = lenP a + lenP b := by simp [lenP]
theorem lenP_cons (a : ByteArray × ByteArray × Bool) (b : List (ByteArray × ByteArray × Bool)) : lenP (a :: b) = a.1.size + a.2.1.size + 3 + lenP b := by simp [lenP]
theorem lenC_take (l : List ByteArray) (k : Nat) (h : k < l.length) : lenC (l.take k) + (l[k].size + 1) ≤ lenC l := by
  have h1 : l = l.take k ++ l[k] :: l.drop (k + 1) := by rw [← List.drop_eq_getElem_cons h, List.take_append_drop]
  have h2 : lenC l = lenC (l.take k) + ((l[k].size + 1) + lenC (l.drop (k + 1))) := by
    conv => lhs; rw [h1]
    rw [lenC_app, lenC_cons]
  omega
theorem lenP_take (l : List (ByteArray × ByteArray × Bool)) (k : Nat) (h : k < l.length) : lenP (l.take k) + (l[k].1.size + l[k].2.1.size + 3) ≤ lenP l := by
  have h1 : l = l.take k ++ l[k] :: l.drop (k + 1) := by rw [← List.drop_eq_getElem_cons h, List.take_append_drop]
  have h2 : lenP l = lenP (l.take k) + ((l[k].1.size + l[k].2.1.size + 3) + lenP (l.drop (k + 1))) := by
    conv => lhs; rw [h1]
    rw [lenP_app, lenP_cons]
  omega
theorem partT_size (p : SPart) : (partT p).size ≤ p.len := by
  have h1 := prsT_size p.pairs (clsT p.tag p.classes)
  rw [clsT_size] at h1
  have h2 : (⟨#[42]⟩ : ByteArray).size = 1 := rfl
  unfold partT SPart.len
  split <;> omega
theorem sepT_size (s : ByteArray) (k : Nat) (p : SPart) : (sepT s k p).size ≤ s.size + 3 := by
  have h1 : gtB.size = 3 := rfl
  have h2 : spB.size = 1 := rfl
  unfold sepT
  split
  · omega
  · split <;> rw [ByteArray.size_append] <;> omega
theorem selT_size (ps : List SPart) (M : Nat) (h : ∀ p ∈ ps, p.len ≤ M) : ∀ k, k ≤ ps.length → (selT ps k).size ≤ k * (M + 3)
  | 0, _ => by simp [selT]
  | k + 1, hk => by
    have ih := selT_size ps M h k (by omega)
    have hg : ps.getD k noP = ps[k] := by rw [List.getD_eq_getElem?_getD, List.getElem?_eq_getElem hk]; rfl
    have h1 := h ps[k] (List.getElem_mem hk)
    have h2 := partT_size ps[k]
    have h3 := sepT_size (selT ps k) k ps[k]
    rw [selT, hg, ByteArray.size_append, Nat.add_mul]
    omega
theorem clsT_take (t : ByteArray) {l : List ByteArray} {k : Nat} (h : k < l.length) : clsT t (l.take (k + 1)) = clsT t (l.take k) ++ (dotB ++ l[k]) := by
  rw [List.take_add_one, List.getElem?_eq_getElem h]; exact clsT_snoc _ _ _
theorem prsT_take (t : ByteArray) {l : List (ByteArray × ByteArray × Bool)} {k : Nat} (h : k < l.length) : prsT t (l.take (k + 1)) = prT (prsT t (l.take k)) l[k] := by
  rw [List.take_add_one, List.getElem?_eq_getElem h]; exact prsT_snoc _ _ _

end Go.Proofs.Ytlibfaghiogekaa
