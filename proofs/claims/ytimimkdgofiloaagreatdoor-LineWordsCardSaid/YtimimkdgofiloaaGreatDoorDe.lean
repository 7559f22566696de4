/- Pairs as cells. No program in sight. -/
import Derived.Test.YtimimkdgofiloaaGreatDoorDd
import Derived.Test.YtimimkdgofiloaaGreatDoorQp
namespace Go.Proofs.YtimimkdgofiloaaGreatDoor
open Go Go.Q

variable {β : Type}
/-- The cells of pairs. -/
def pv (f : β → Value) (l : List (ByteArray × β)) : List Value := l.flatMap fun p => [.string p.1, f p.2]
theorem pv_len (f : β → Value) : ∀ l : List (ByteArray × β), (pv f l).length = l.length * 2
  | [] => rfl
  | p :: l => by
    have := pv_len f l
    simp only [pv, List.flatMap_cons, List.length_append, List.length_cons, List.length_nil] at this ⊢
    omega
theorem pv_append (f : β → Value) (a b : List (ByteArray × β)) : pv f (a ++ b) = pv f a ++ pv f b := by simp [pv]
theorem pv_cons (f : β → Value) (p : ByteArray × β) (b : List (ByteArray × β)) : pv f (p :: b) = [.string p.1, f p.2] ++ pv f b := by simp [pv]
theorem pv_take (f : β → Value) (l : List (ByteArray × β)) (j : Nat) : (pv f l).take (j * 2) = pv f (l.take j) := by
  rcases Nat.lt_or_ge l.length j with h | h
  · rw [List.take_of_length_le (by rw [pv_len]; omega), List.take_of_length_le (by omega)]
  · have hs : pv f l = pv f (l.take j) ++ pv f (l.drop j) := by rw [← pv_append, List.take_append_drop]
    have hl : (pv f (l.take j)).length = j * 2 := by rw [pv_len, List.length_take]; omega
    rw [hs, ← hl]; exact List.take_left
theorem pv_drop (f : β → Value) (l : List (ByteArray × β)) (j : Nat) : (pv f l).drop (j * 2) = pv f (l.drop j) := by
  rcases Nat.lt_or_ge l.length j with h | h
  · rw [List.drop_eq_nil_of_le (by rw [pv_len]; omega), List.drop_eq_nil_of_le (by omega)]; rfl
  · have hs : pv f l = pv f (l.take j) ++ pv f (l.drop j) := by rw [← pv_append, List.take_append_drop]
    have hl : (pv f (l.take j)).length = j * 2 := by rw [pv_len, List.length_take]; omega
    rw [hs, ← hl]; exact List.drop_left
theorem pv_at (f : β → Value) (l : List (ByteArray × β)) {j : Nat} (h : j < l.length) : ((pv f l).drop (j * 2)).take 2 = [.string l[j].1, f l[j].2] := by
  rw [pv_drop, List.drop_eq_getElem_cons h, pv_cons]; rfl

/-- The same in a row that has them at its head. -/
theorem cur_at {f : β → Value} {l : List (ByteArray × β)} {cur : List Value} (hus : cur.take (l.length * 2) = pv f l) {j : Nat} (h : j < l.length) : (cur.drop (j * 2)).take 2 = [.string l[j].1, f l[j].2] := by
  rw [← pv_at f l h, ← hus, List.drop_take, List.take_take]
  congr 1
  omega
theorem cur_get {f : β → Value} {l : List (ByteArray × β)} {cur : List Value} (hus : cur.take (l.length * 2) = pv f l) {j : Nat} (h : j < l.length) (k : Nat) (hk : k < 2) : cur[j * 2 + k]? = ([.string l[j].1, f l[j].2] : List Value)[k]? := by
  rw [← cur_at hus h, List.getElem?_take, if_pos hk, List.getElem?_drop]
theorem cur_len {f : β → Value} {l : List (ByteArray × β)} {cur : List Value} (hus : cur.take (l.length * 2) = pv f l) : l.length * 2 ≤ cur.length := by
  have := congrArg List.length hus
  rw [List.length_take, pv_len] at this
  omega

theorem flat_ats (l : List (ByteArray × ByteArray)) : Flat 2 (pv .string l) (ats l) := by
  refine ⟨fun e he => ?_, fun X w => ?_⟩
  · obtain ⟨p, _, rfl⟩ := List.mem_map.1 he; rfl
  · induction l with
    | nil => exact trivial
    | cons p l ih => exact ⟨Rc.s _, Rc.s _, ih⟩
theorem flat_prs (l : List (ByteArray × Int)) : Flat 2 (pv (.int .i64) l) (prs l) := by
  refine ⟨fun e he => ?_, fun X w => ?_⟩
  · obtain ⟨p, _, rfl⟩ := List.mem_map.1 he; rfl
  · induction l with
    | nil => exact trivial
    | cons p l ih => exact ⟨Rc.s _, Rc.i _ _, ih⟩
theorem pv_one (f : β → Value) (hf : ∀ b, (f b).oneCell' = true) (l : List (ByteArray × β)) : (pv f l).all Value.oneCell' = true := by
  rw [List.all_eq_true]
  intro v hv
  obtain ⟨p, _, hp⟩ := List.mem_flatMap.1 hv
  rcases List.mem_cons.1 hp with rfl | hp
  · rfl
  · rcases List.mem_cons.1 hp with rfl | hp
    · exact hf _
    · simp at hp

/-- A rising row searched: what is known of the place that is sought. -/
def Between (l : List (ByteArray × β)) (n : ByteArray) (i j : Nat) : Prop := i ≤ j ∧ j ≤ l.length ∧ (∀ k (h : k < l.length), k < i → lt l[k].1 n = true) ∧ (∀ k (h : k < l.length), j ≤ k → lt l[k].1 n = false)
theorem Between.start (l : List (ByteArray × β)) (n : ByteArray) : Between l n 0 l.length := ⟨Nat.zero_le _, Nat.le_refl _, fun _ _ h => absurd h (Nat.not_lt_zero _), fun k h hk => absurd h (by omega)⟩
theorem Between.up {l : List (ByteArray × β)} {n : ByteArray} {i j h : Nat} (hs : Srt l) (hb : Between l n i j) (hh : h < l.length) (hj : h < j) (hlt : lt l[h].1 n = true) : Between l n (h + 1) j := by
  refine ⟨hj, hb.2.1, fun k hk hki => ?_, hb.2.2.2⟩
  rcases Nat.lt_or_eq_of_le (Nat.lt_succ_iff.1 hki) with h1 | h1
  · exact lt_trans (hs.lt hh h1) hlt
  · subst h1; exact hlt
theorem Between.down {l : List (ByteArray × β)} {n : ByteArray} {i j h : Nat} (hs : Srt l) (hb : Between l n i j) (hh : h < l.length) (hi : i ≤ h) (hlt : lt l[h].1 n = false) : Between l n i h := by
  refine ⟨hi, by omega, hb.2.2.1, fun k hk hki => ?_⟩
  rcases Nat.lt_or_eq_of_le hki with h1 | h1
  · have h2 := hs.lt hk h1
    cases hc : lt l[k].1 n
    · rfl
    · have := lt_trans h2 hc
      rw [this] at hlt; exact hlt
  · subst h1; exact hlt
theorem Between.done {l : List (ByteArray × β)} {n : ByteArray} {i : Nat} (hb : Between l n i i) : placeM l n = i :=
  placeM_eq hb.2.1 (fun k hk hki => hb.2.2.1 k hk hki) (fun h => hb.2.2.2 i h (Nat.le_refl _))
theorem isM_at {l : List (ByteArray × β)} {n : ByteArray} {i : Nat} (hp : placeM l n = i) (h : i < l.length) : isM l n = decide (l[i].1 = n) := by
  unfold isM
  rw [hp, List.getElem?_eq_getElem h]
  simp
theorem isM_end {l : List (ByteArray × β)} {n : ByteArray} {i : Nat} (hp : placeM l n = i) (h : l.length ≤ i) : isM l n = false := by
  unfold isM
  rw [hp, List.getElem?_eq_none h]
  simp
theorem ins_take {f : β → Value} {l : List (ByteArray × β)} {cur : List Value} (hus : cur.take (l.length * 2) = pv f l) {i : Nat} (hi : i ≤ l.length) : cur.take (i * 2) = pv f (l.take i) := by
  rw [← pv_take, ← hus, List.take_take, Nat.min_eq_left (by omega)]
theorem ins_mid {f : β → Value} {l : List (ByteArray × β)} {cur : List Value} (hus : cur.take (l.length * 2) = pv f l) {i : Nat} : (cur.drop (i * 2)).take ((l.length - i) * 2) = pv f (l.drop i) := by
  rw [← pv_drop, ← hus, List.drop_take]
  congr 1
  omega
theorem ins_all (f : β → Value) (l : List (ByteArray × β)) (p : ByteArray × β) {i : Nat} (hi : i ≤ l.length) (r : List Value) : (pv f (l.take i) ++ [.string p.1, f p.2] ++ pv f (l.drop i) ++ r).take ((l.length + 1) * 2) = pv f (l.take i ++ p :: l.drop i) := by
  have h : pv f (l.take i ++ p :: l.drop i) = pv f (l.take i) ++ [.string p.1, f p.2] ++ pv f (l.drop i) := by
    rw [pv_append, pv_cons, List.append_assoc]
  rw [← h]
  have hl : (pv f (l.take i ++ p :: l.drop i)).length = (l.length + 1) * 2 := by
    rw [pv_len, List.length_append, List.length_cons, List.length_take, List.length_drop]; omega
  rw [← hl]; exact List.take_left
/-- What the copies within a row with room come to. -/
theorem ins_room {f : β → Value} {l : List (ByteArray × β)} {cur : List Value} (hus : cur.take (l.length * 2) = pv f l) {i : Nat} (hi : i ≤ l.length) (hc : (i + 1) * 2 ≤ cur.length) (U V W : List Value) (hV : V.length = 2) :
    (cur.take ((i + 1) * 2) ++ U ++ W).take (i * 2) ++ V ++ (cur.take ((i + 1) * 2) ++ U ++ W).drop (i * 2 + V.length) = pv f (l.take i) ++ V ++ U ++ W := by
  have h1 : (cur.take ((i + 1) * 2)).length = (i + 1) * 2 := by rw [List.length_take]; omega
  have h3 : (cur.take ((i + 1) * 2) ++ U ++ W).take (i * 2) = pv f (l.take i) := by
    rw [List.append_assoc, List.take_append_of_le_length (by omega), List.take_take, Nat.min_eq_left (by omega), ins_take hus hi]
  rw [hV, show i * 2 + 2 = (i + 1) * 2 by omega, h3, List.append_assoc (cur.take ((i + 1) * 2)) U W]
  have h2 : (cur.take ((i + 1) * 2) ++ (U ++ W)).drop ((i + 1) * 2) = U ++ W := by
    conv => lhs; arg 1; rw [← h1]
    exact List.drop_left
  rw [h2]
  simp
/-- .. and into a new row. -/
theorem ins_grow {f : β → Value} {l : List (ByteArray × β)} {cur : List Value} (hus : cur.take (l.length * 2) = pv f l) {i : Nat} (hi : i ≤ l.length) (V rs : List Value) (hV : V.length = 2) :
    (cur.take (i * 2) ++ rs).take (i * 2) ++ V ++ (cur.take (i * 2) ++ rs).drop (i * 2 + V.length) = pv f (l.take i) ++ V ++ rs.drop 2 := by
  have hcl := cur_len hus
  have h1 : (cur.take (i * 2)).length = i * 2 := by rw [List.length_take]; omega
  have h2 : (cur.take (i * 2) ++ rs).take (i * 2) = cur.take (i * 2) := by
    conv => lhs; arg 1; rw [← h1]
    exact List.take_left
  have h3 : (cur.take (i * 2) ++ rs).drop (i * 2 + 2) = rs.drop 2 := by
    rw [← List.drop_drop]
    congr 1
    conv => lhs; arg 1; rw [← h1]
    exact List.drop_left
  rw [hV, h2, h3, ins_take hus hi]
theorem ins_grow2 (f : β → Value) (l : List (ByteArray × β)) {i : Nat} (hi : i ≤ l.length) (V U R : List Value) (hV : V.length = 2) :
    (pv f (l.take i) ++ V ++ R).take ((i + 1) * 2) ++ U ++ (pv f (l.take i) ++ V ++ R).drop ((i + 1) * 2 + U.length) = pv f (l.take i) ++ V ++ U ++ R.drop U.length := by
  have h1 : (pv f (l.take i) ++ V).length = (i + 1) * 2 := by rw [List.length_append, pv_len, List.length_take, hV]; omega
  have h2 : (pv f (l.take i) ++ V ++ R).take ((i + 1) * 2) = pv f (l.take i) ++ V := by
    conv => lhs; arg 1; rw [← h1]
    exact List.take_left
  have h3 : (pv f (l.take i) ++ V ++ R).drop ((i + 1) * 2 + U.length) = R.drop U.length := by
    rw [← List.drop_drop]
    congr 1
    conv => lhs; arg 1; rw [← h1]
    exact List.drop_left
  rw [h2, h3]
theorem set_cells {f : β → Value} {l : List (ByteArray × β)} {cur : List Value} (hus : cur.take (l.length * 2) = pv f l) {j : Nat} (h : j < l.length) {p : ByteArray × β} :
    cur.take (j * 2) ++ [.string p.1, f p.2] ++ cur.drop (j * 2 + 2) = pv f (l.set j p) ++ cur.drop (l.length * 2) := by
  have h1 : cur = pv f l ++ cur.drop (l.length * 2) := by rw [← hus, List.take_append_drop]
  have h2 : cur.drop (j * 2 + 2) = pv f (l.drop (j + 1)) ++ cur.drop (l.length * 2) := by
    conv => lhs; rw [h1]
    rw [show j * 2 + 2 = (j + 1) * 2 by omega, List.drop_append_of_le_length (by rw [pv_len]; omega), pv_drop]
  rw [ins_take hus (by omega), h2, List.set_eq_take_append_cons_drop, if_pos h, pv_append, pv_cons]
  simp
theorem set_take (f : β → Value) (l : List (ByteArray × β)) (j : Nat) (p : ByteArray × β) (r : List Value) : (pv f (l.set j p) ++ r).take (l.length * 2) = pv f (l.set j p) := by
  have hl : (pv f (l.set j p)).length = l.length * 2 := by rw [pv_len, List.length_set]
  rw [← hl]; exact List.take_left
end Go.Proofs.YtimimkdgofiloaaGreatDoor
