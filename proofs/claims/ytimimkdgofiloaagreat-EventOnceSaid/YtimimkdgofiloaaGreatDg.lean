/- Trees, and who fits: the program's way down. No program in sight. -/
import Derived.Test.YtimimkdgofiloaaGreatDf
namespace Go.Proofs.YtimimkdgofiloaaGreat
open Go Go.Q

inductive Tr where
  | mk (id kind : Int) (tag text : ByteArray) (cl : List ByteArray) (at' : List (ByteArray × ByteArray)) (st : List (ByteArray × Int)) (kids : List Tr)

mutual
def Tr.d : Tr → List D
  | .mk id kind tag text cl at' st kids => nodeD id kind tag text cl at' st (kidsD kids)
def kidsD : List Tr → List (List D)
  | [] => []
  | t :: l => t.d :: kidsD l
end
mutual
def Tr.size : Tr → Nat
  | .mk _ _ _ _ _ _ _ kids => kidsSize kids + 1
def kidsSize : List Tr → Nat
  | [] => 0
  | t :: l => t.size + kidsSize l
end
mutual
/-- Each node's attributes rise, and are few. -/
def Tr.ok : Tr → Prop
  | .mk _ _ _ _ _ at' _ kids => Srt at' ∧ at'.length ≤ 900 ∧ kidsOk kids
def kidsOk : List Tr → Prop
  | [] => True
  | t :: l => t.ok ∧ kidsOk l
end
def Tr.id : Tr → Int
  | .mk id _ _ _ _ _ _ _ => id
def Tr.kids : Tr → List Tr
  | .mk _ _ _ _ _ _ _ kids => kids
def Tr.cs : Tr → List CV
  | .mk id kind tag text cl at' st kids => nodeC id kind tag text cl at' st (kidsD kids)
/-- Does a node fit a part? -/
def Tr.fits (p : SPart) : Tr → Bool
  | .mk _ kind tag _ cl at' _ _ => fitsB kind tag cl at' p

theorem kidsD_len : ∀ l : List Tr, (kidsD l).length = l.length
  | [] => rfl
  | t :: l => by simp [kidsD, kidsD_len l]
theorem kidsD_get : ∀ {l : List Tr} {k : Nat} (h : k < l.length), (kidsD l)[k]? = some l[k].d
  | t :: l, 0, _ => rfl
  | t :: l, k + 1, h => by simpa [kidsD] using kidsD_get (l := l) (k := k) (by simpa using h)
theorem Tr.cs_d (t : Tr) : t.cs = t.d.map .d := by cases t; rfl
theorem Tr.d_len (t : Tr) : t.d.length = 8 := by cases t; rfl
theorem kidsOk_get : ∀ {l : List Tr}, kidsOk l → ∀ {k : Nat} (h : k < l.length), l[k].ok
  | t :: l, ho, 0, _ => ho.1
  | t :: l, ho, k + 1, h => kidsOk_get (l := l) ho.2 (by simpa using h)

/-- Which beginnings of the parts fit here. -/
def hereB (ps : List SPart) (t : Tr) (par abv : List Bool) : List Bool :=
  (List.range ps.length).map fun i => (if i = 0 then true else if (ps.getD i ⟨ByteArray.empty, [], [], false⟩).child = true then par.getD (i - 1) false else abv.getD (i - 1) false) && t.fits (ps.getD i ⟨ByteArray.empty, [], [], false⟩)
def withB (abv here : List Bool) : List Bool := List.zipWith (fun a b => a || b) abv here

mutual
def downM (ps : List SPart) : Tr → List Bool → List Bool → List Int
  | .mk id kind tag text cl at' st kids, par, abv =>
    (if (hereB ps (.mk id kind tag text cl at' st kids) par abv).getLast? = some true then [id] else []) ++
      kidsDown ps kids (hereB ps (.mk id kind tag text cl at' st kids) par abv) (withB abv (hereB ps (.mk id kind tag text cl at' st kids) par abv))
def kidsDown (ps : List SPart) : List Tr → List Bool → List Bool → List Int
  | [], _, _ => []
  | t :: l, h, w => downM ps t h w ++ kidsDown ps l h w
end

/-- Who fits. -/
def allM (ps : List SPart) (t : Tr) : List Int := downM ps t (List.replicate ps.length false) (List.replicate ps.length false)

mutual
theorem downM_len (ps : List SPart) : ∀ (t : Tr) (par abv : List Bool), (downM ps t par abv).length ≤ t.size
  | .mk id kind tag text cl at' st kids, par, abv => by
    have h := kidsDown_len ps kids (hereB ps (.mk id kind tag text cl at' st kids) par abv) (withB abv (hereB ps (.mk id kind tag text cl at' st kids) par abv))
    simp only [downM, List.length_append, Tr.size]
    split <;> simp <;> omega
theorem kidsDown_len (ps : List SPart) : ∀ (l : List Tr) (h w : List Bool), (kidsDown ps l h w).length ≤ kidsSize l
  | [], _, _ => Nat.le_refl _
  | t :: l, h, w => by
    have h1 := downM_len ps t h w
    have h2 := kidsDown_len ps l h w
    simp only [kidsDown, List.length_append, kidsSize]
    omega
end
theorem kidsDown_take (ps : List SPart) (h w : List Bool) : ∀ {l : List Tr} {k : Nat} (hk : k < l.length), kidsDown ps (l.take (k + 1)) h w = kidsDown ps (l.take k) h w ++ downM ps l[k] h w
  | t :: l, 0, _ => by simp [kidsDown]
  | t :: l, k + 1, hk => by
    have := kidsDown_take ps h w (l := l) (k := k) (by simpa using hk)
    simp only [List.take_succ_cons, kidsDown, this, List.getElem_cons_succ, List.append_assoc]
theorem kidsSize_get : ∀ {l : List Tr} {k : Nat} (h : k < l.length), l[k].size + kidsSize (l.take k) ≤ kidsSize l
  | t :: l, 0, _ => by simp [kidsSize]
  | t :: l, k + 1, h => by
    have := kidsSize_get (l := l) (k := k) (by simpa using h)
    simp only [List.take_succ_cons, kidsSize, List.getElem_cons_succ]
    omega
theorem hereB_len (ps : List SPart) (t : Tr) (par abv : List Bool) : (hereB ps t par abv).length = ps.length := by simp [hereB]
abbrev noP : SPart := ⟨ByteArray.empty, [], [], false⟩
/-- May the i-th part fit here, by what fits above? -/
def aheadB (ps : List SPart) (par abv : List Bool) (i : Nat) : Bool := if i = 0 then true else if (ps.getD i noP).child = true then par.getD (i - 1) false else abv.getD (i - 1) false
theorem hereB_get (ps : List SPart) (t : Tr) (par abv : List Bool) {i : Nat} (h : i < ps.length) : (hereB ps t par abv)[i]? = some (aheadB ps par abv i && t.fits ps[i]) := by
  have hg : ps.getD i noP = ps[i] := by rw [List.getD_eq_getElem?_getD, List.getElem?_eq_getElem h]; rfl
  unfold hereB aheadB
  rw [List.getElem?_map, List.getElem?_range h]
  simp only [Option.map_some, hg]
/-- Filled up to a place. -/
def Upto (L M : List Bool) (i : Nat) : Prop := L.length = M.length ∧ ∀ k, k < i → L[k]? = M[k]?
theorem Upto.step {L M : List Bool} {i : Nat} {x : Bool} (h : Upto L M i) (hx : M[i]? = some x) : Upto (L.set i x) M (i + 1) := by
  have hi := (List.getElem?_eq_some_iff.1 hx).1
  refine ⟨by rw [List.length_set]; exact h.1, fun k hk => ?_⟩
  by_cases hki : k = i
  · subst hki
    rw [List.getElem?_set_self (by rw [h.1]; exact hi), hx]
  · rw [List.getElem?_set_ne (Ne.symm hki)]
    exact h.2 k (by omega)
theorem Upto.done {L M : List Bool} {i : Nat} (h : Upto L M i) (hi : M.length ≤ i) : L = M := by
  apply List.ext_getElem?
  intro k
  rcases Nat.lt_or_ge k i with h1 | h1
  · exact h.2 k h1
  · rw [List.getElem?_eq_none (by rw [h.1]; omega), List.getElem?_eq_none (by omega)]
theorem withB_get {abv here : List Bool} {i : Nat} (h1 : i < abv.length) (h2 : i < here.length) : (withB abv here)[i]? = some (abv[i] || here[i]) := by
  unfold withB
  rw [List.getElem?_zipWith, List.getElem?_eq_getElem h1, List.getElem?_eq_getElem h2]
theorem withB_len (abv here : List Bool) : (withB abv here).length = min abv.length here.length := by simp [withB]
theorem bools_set (l : List Bool) (i : Nat) (b : Bool) : (bools l).set i [.b b] = bools (l.set i b) := by simp [bools, List.map_set]
end Go.Proofs.YtimimkdgofiloaaGreat
namespace Go.Proofs.YtimimkdgofiloaaGreat
open Go Go.Q
theorem kidsD_map : ∀ l : List Tr, kidsD l = l.map Tr.d
  | [] => rfl
  | t :: l => by simp [kidsD, kidsD_map l]
theorem kidsD_take (l : List Tr) (k : Nat) : (kidsD l).take k = kidsD (l.take k) := by rw [kidsD_map, kidsD_map, List.map_take]
theorem kidsD_append (l m : List Tr) : kidsD (l ++ m) = kidsD l ++ kidsD m := by simp [kidsD_map]
theorem kidsOk_all : ∀ {l : List Tr}, kidsOk l ↔ ∀ t ∈ l, t.ok
  | [] => by simp [kidsOk]
  | t :: l => by simp [kidsOk, kidsOk_all (l := l)]
theorem kidsOk_take {l : List Tr} (h : kidsOk l) (k : Nat) : kidsOk (l.take k) := kidsOk_all.2 fun t ht => kidsOk_all.1 h t (List.mem_of_mem_take ht)
theorem kidsSize_len : ∀ l : List Tr, l.length ≤ kidsSize l
  | [] => Nat.le_refl _
  | .mk id kind tag text cl at' st kids :: l => by have := kidsSize_len l; simp only [List.length_cons, kidsSize, Tr.size]; omega
theorem elsC_d (t : Tr) : elsC 8 0 [(0, .g t.cs)] = some [t.d] := by cases t; rfl
end Go.Proofs.YtimimkdgofiloaaGreat
