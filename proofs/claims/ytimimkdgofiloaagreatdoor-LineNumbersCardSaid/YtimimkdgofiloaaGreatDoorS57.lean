/- The fixed facts of layer 30; LineNumbers. Printed by gen.py. -/
import Derived.Test.YtimimkdgofiloaaGreatDoorS56
import Derived.Test.YtimimkdgofiloaaGreatDoorS2
namespace Go.Proofs.YtimimkdgofiloaaGreatDoor
open Go Go.Q
abbrev tickL : List UInt8 := [116, 105, 99, 107]
abbrev lineA : List UInt8 := [32, 116, 105, 99, 107, 32, 32, 53]
abbrev engL : List UInt8 := [101, 110, 103, 105, 110, 101]
theorem take_snoc1 {α : Type} (l : List α) {k : Nat} (h : k < l.length) : l.take (k + 1) = l.take k ++ [l[k]] := by rw [List.take_add_one, List.getElem?_eq_getElem h]; rfl
theorem parseA {e : Int} {cs : List CV} (h : ParseN lineA e cs) : e = 0 ∧ cs = stepC (mkB tickL) (.d (.l 1 (ints [5]))) := by
  have h1 : lookF formsL (wordL lineA) = some (2, 1) := by kernel_rfl
  have h2 : restL lineA = [32, 53] := by kernel_rfl
  have h3 : fieldsL [32, 53] = [[53]] := by kernel_rfl
  have h4 : numW [53] = some 5 := by kernel_rfl
  have h5 : wordL lineA = mkB tickL := by kernel_rfl
  unfold ParseN at h
  rw [h1, h2, h5] at h
  have hn : NumsN [32, 53] 1 [5] := ⟨⟨by rw [h3]; simp [h4], by simp⟩, rfl⟩
  rcases h with ⟨ns, hns, rfl, rfl⟩ | ⟨_, _, h6⟩
  · rw [nums_one hns.1 hn.1]; exact ⟨rfl, rfl⟩
  · exact absurd hn (h6 _)
theorem parseB {e : Int} {cs : List CV} (h : ParseN tickL e cs) : e = 2 ∧ cs = noneC := by
  have h1 : lookF formsL (wordL tickL) = some (2, 1) := by kernel_rfl
  have h2 : restL tickL = [] := by kernel_rfl
  have h3 : fieldsL [] = [] := by kernel_rfl
  unfold ParseN at h
  rw [h1, h2] at h
  rcases h with ⟨ns, hns, _⟩ | ⟨h5, h6, _⟩
  · have := hns.1.len
    rw [h3] at this
    have h7 := hns.2
    rw [this] at h7; cases h7
  · exact ⟨h5, h6⟩
theorem notV (l : List UInt8) {q : Int × Int} (h : lookF formsL (wordL l) = some q) (h1 : q.1 = 2) : ((lookF formsL (wordL l)).getD (0, 0)).1 ≠ 1 ∧ ((lookF formsL (wordL l)).getD (0, 0)).1 ≠ 3 := by
  rw [h]; simp [h1]
theorem lookT : lookF formsL (wordL lineA) = some (2, 1) := by kernel_rfl
theorem lookT2 : lookF formsL (wordL tickL) = some (2, 1) := by kernel_rfl
theorem lookE : lookF formsL (mkB engL) = some (2, 5) := by kernel_rfl
/-- The text that LineNumbers makes: before each number so many blanks and one. -/
def blkL (b : Nat) : List UInt8 := List.replicate b 32
def textL : List (Nat × Int) → List UInt8
  | [] => []
  | p :: l => blkL (p.1 + 1) ++ digL p.2 ++ textL l
theorem textL_snoc (p : Nat × Int) : ∀ l : List (Nat × Int), textL (l ++ [p]) = textL l ++ (blkL (p.1 + 1) ++ digL p.2)
  | [] => by simp [textL]
  | q :: l => by rw [List.cons_append, textL, textL_snoc p l, textL]; simp
theorem digL_not (n : Int) : 32 ∉ digL n ∧ digL n ≠ [] := by
  unfold digL
  split
  · exact ⟨by decide, by decide⟩
  · refine ⟨fun h => ?_, dec_ne _⟩
    have := dec_dig _ _ (Nat.le_refl _) 32 h
    revert this; decide
theorem digL_len (n : Int) (h : n ≤ 9223372036854775807) : (digL n).length ≤ 20 := by
  unfold digL
  split
  · decide
  · rw [Lib.decDigits_length]; exact Lib.nDigits_le20 _ (by omega)
theorem fields_blanks (b : Nat) (l : List UInt8) : fieldsL (blkL b ++ l) = fieldsL l := by
  induction b with
  | zero => rfl
  | succ b ih => unfold blkL at *; rw [List.replicate_succ, List.cons_append, fieldsL_blank, ih]
theorem textL_head : ∀ l : List (Nat × Int), textL l = [] ∨ ∃ r, textL l = 32 :: r
  | [] => .inl rfl
  | p :: l => .inr ⟨blkL p.1 ++ digL p.2 ++ textL l, by simp [textL, blkL, List.replicate_succ]⟩
theorem fields_text : ∀ l : List (Nat × Int), fieldsL (textL l) = (l.map Prod.snd).map digL
  | [] => by simp [textL, fieldsL, splitL]
  | p :: l => by
    rw [textL, List.append_assoc, fields_blanks, List.map_cons, List.map_cons]
    obtain ⟨h1, h2⟩ := digL_not p.2
    have ih := fields_text l
    rcases textL_head l with h | ⟨r, h⟩
    · rw [h, List.append_nil, fieldsL_one h1 h2]
      rw [h] at ih
      rw [← ih]; simp [fieldsL, splitL]
    · rw [h, fieldsL_app h1 h2]
      rw [h, fieldsL_blank] at ih
      rw [ih]
theorem textL_len : ∀ l : List (Nat × Int), (∀ p ∈ l, p.1 ≤ 3 ∧ p.2 ≤ 9223372036854775807) → (textL l).length ≤ l.length * 24
  | [], _ => by simp [textL]
  | p :: l, h => by
    have ih := textL_len l fun m hm => h m (by simp [hm])
    have h0 := h p (by simp)
    have := digL_len p.2 h0.2
    rw [textL, List.length_append, List.length_append, List.length_cons, Nat.succ_mul]
    simp only [blkL, List.length_replicate]; omega
theorem all_isDig (u : Nat) : (Lib.decDigits u).all isDig = true := List.all_eq_true.2 (dec_dig u u (Nat.le_refl _))
theorem dec_h45 (u : Nat) : (Lib.decDigits u).head? ≠ some 45 := by
  intro h
  have hm : (45 : UInt8) ∈ Lib.decDigits u := by
    cases hd : Lib.decDigits u with
    | nil => rw [hd] at h; cases h
    | cons c r => rw [hd] at h; simp at h; rw [h]; simp
  have := dec_dig u u (Nat.le_refl _) 45 hm
  revert this; decide
/-- A number is one that may be, just if it's not too great. -/
theorem numR_dec (u : Nat) : numR (Lib.decDigits u) = decide (u ≤ 2147483647) := by
  have hd : digR (Lib.decDigits u) = Lib.decDigits u := by unfold digR; rw [if_neg (dec_h45 u)]
  have hs : sgR (Lib.decDigits u) = 1 := by unfold sgR; rw [if_neg (dec_h45 u)]
  have hne : ¬ (Lib.decDigits u).length < 1 := by have := dec_ne u; cases h : Lib.decDigits u with
    | nil => exact absurd h this
    | cons _ _ => simp
  have hval := dec_val u u (Nat.le_refl _)
  by_cases hu : u ≤ 2147483647
  · rw [decide_eq_true hu, numR_good (by rw [hd]; exact hne) (by rw [hd]; have := dec_len_le hu; omega) (by rw [hd]; exact all_isDig u), hd, hs, hval]
    have : Lib.itoa (1 * (u : Int)) = Lib.decDigits u := by rw [Int.one_mul]; unfold Lib.itoa; rw [if_neg (by omega)]; simp
    rw [this]; simp; omega
  · rw [decide_eq_false hu]
    by_cases h10 : 10 < (Lib.decDigits u).length
    · exact numR_bad (.inr (.inl (by rw [hd]; exact h10)))
    · rw [numR_good (by rw [hd]; exact hne) (by rw [hd]; exact h10) (by rw [hd]; exact all_isDig u), hd, hs, hval]
      have : decide (2147483647 < 1 * (u : Int)) = true := by simp; omega
      rw [this]; simp
theorem numW_dec (u : Nat) : numW (Lib.decDigits u) = if u ≤ 2147483647 then some (u : Int) else none := by
  have ht : ¬ (Lib.decDigits u).take 1 = [45] := by
    intro h
    refine dec_h45 u ?_
    cases hd : Lib.decDigits u with
    | nil => rw [hd] at h; cases h
    | cons c r => rw [hd] at h; simpa using h
  have hd : digW (Lib.decDigits u) = Lib.decDigits u := by unfold digW; rw [if_neg ht]
  have hs : signW (Lib.decDigits u) = false := by unfold signW; rw [decide_eq_false ht]
  have hval := dec_val u u (Nat.le_refl _)
  have he : (Lib.decDigits u).isEmpty = false := by have := dec_ne u; cases h : Lib.decDigits u with
    | nil => exact absurd h this
    | cons _ _ => rfl
  have h48 : ((Lib.decDigits u).head? == some 48 && (decide (1 < (Lib.decDigits u).length) || false)) = false := by
    rcases Nat.eq_zero_or_pos u with h0 | h0
    · subst h0; rw [Lib.decDigits_one (by omega)]; rfl
    · have := dec_head u u (Nat.le_refl _) h0
      have : ((Lib.decDigits u).head? == some 48) = false := by simpa using this
      rw [this]; rfl
  unfold numW
  rw [hd, hs, hval]
  by_cases h10 : 10 < (Lib.decDigits u).length
  · have : badW (Lib.decDigits u) false = true := by unfold badW; rw [decide_eq_true h10]; simp
    rw [this, if_pos rfl, if_neg (fun h => by have := dec_len_le h; omega)]
  · have : badW (Lib.decDigits u) false = false := by unfold badW; rw [he, decide_eq_false h10, all_isDig, h48]; rfl
    rw [this, if_neg (by decide)]
    unfold negW
    by_cases hu : u ≤ 2147483647
    · rw [if_pos hu]; simp; omega
    · rw [if_neg hu]; simp; omega
theorem dig_num (n : Int) : (n < 0 ∧ numW (digL n) = some (-1)) ∨ (0 ≤ n ∧ numR (digL n) = decide (n ≤ 2147483647) ∧ numW (digL n) = if n ≤ 2147483647 then some n else none) := by
  rcases Int.lt_or_le n 0 with h | h
  · refine .inl ⟨h, ?_⟩
    unfold digL; rw [if_pos h]; kernel_rfl
  · obtain ⟨u, rfl⟩ := Int.eq_ofNat_of_zero_le h
    refine .inr ⟨h, ?_⟩
    unfold digL
    rw [if_neg (by omega), Int.toNat_natCast, numR_dec, numW_dec]
    refine ⟨decide_eq_decide.2 (by omega), ?_⟩
    by_cases hu : u ≤ 2147483647
    · rw [if_pos hu, if_pos (by omega)]
    · rw [if_neg hu, if_neg (by omega)]
/-- May all of them be? -/
def goodL (l : List Int) : Bool := l.all fun n => decide (0 ≤ n) && decide (n ≤ 2147483647)
theorem good_nums : ∀ {l : List Int}, goodL l = true → NumsOf (l.map digL) l
  | [], _ => ⟨rfl, by simp⟩
  | n :: l, h => by
    unfold goodL at h
    simp only [List.all_cons, Bool.and_eq_true, decide_eq_true_eq] at h
    obtain ⟨h1, h2⟩ := good_nums (l := l) h.2
    rcases dig_num n with ⟨h3, _⟩ | ⟨_, _, h4⟩
    · omega
    · refine ⟨by simp only [List.map_cons, h1, h4, if_pos h.1.2], fun m hm => ?_⟩
      rcases List.mem_cons.1 hm with rfl | h5
      · exact h.1.1
      · exact h2 m h5
theorem nums_good : ∀ {l ns : List Int}, NumsOf (l.map digL) ns → goodL l = true
  | [], _, _ => rfl
  | n :: l, ns, ⟨h1, h2⟩ => by
    cases ns with
    | nil => simp at h1
    | cons m ns =>
      simp only [List.map_cons, List.cons.injEq] at h1
      have ih := nums_good (l := l) (ns := ns) ⟨h1.2, fun x hx => h2 x (by simp [hx])⟩
      have hm := h2 m (by simp)
      unfold goodL at ih ⊢
      rw [List.all_cons, ih, Bool.and_true]
      rcases dig_num n with ⟨h3, h4⟩ | ⟨h3, _, h4⟩
      · rw [h4] at h1; have := h1.1; simp at this; omega
      · rw [h4] at h1
        by_cases hn : n ≤ 2147483647
        · simp [h3, hn]
        · rw [if_neg hn] at h1; cases h1.1
theorem good_snoc (l : List Int) (n : Int) : goodL (l ++ [n]) = (goodL l && (decide (0 ≤ n) && decide (n ≤ 2147483647))) := by unfold goodL; rw [List.all_append]; simp
theorem word_text (l : List (Nat × Int)) : wordL (engL ++ textL l) = mkB engL ∧ fieldsL (restL (engL ++ textL l)) = (l.map Prod.snd).map digL := by
  have ht : trimL (engL ++ textL l) = engL ++ textL l := by
    show trimL (101 :: _) = _
    rw [trimL_no (by decide)]; rfl
  have hf := fields_text l
  unfold wordL restL
  rw [ht]
  rcases textL_head l with h | ⟨r, h⟩
  · rw [h, List.append_nil, cutL_none (by decide)]
    rw [h] at hf
    exact ⟨rfl, hf⟩
  · rw [h, cutL_app (by decide)]
    rw [h, fieldsL_blank] at hf
    exact ⟨rfl, hf⟩
/-- What the line comes to. -/
theorem line_text (ps : List (Nat × Int)) {l : List Int} (hl : ps.map Prod.snd = l) {e : Int} {cs : List CV} (h : ParseN (engL ++ textL ps) e cs) :
    ((goodL l && decide (l.length = 5)) = true ∧ e = 0 ∧ cs = stepC (mkB engL) (.d (.l 1 (ints l)))) ∨ ((goodL l && decide (l.length = 5)) = false ∧ e = 2 ∧ cs = noneC) := by
  obtain ⟨h1, h2⟩ := word_text ps
  rw [hl] at h2
  unfold ParseN at h
  rw [h1, lookE] at h
  rcases h with ⟨ns, hns, rfl, rfl⟩ | ⟨h3, h4, h5⟩
  · unfold NumsN at hns
    rw [h2] at hns
    have hg := nums_good hns.1
    have he := nums_one hns.1 (good_nums hg)
    subst he
    exact .inl ⟨by have := hns.2; rw [hg]; simp at this; simp; omega, rfl, rfl⟩
  · refine .inr ⟨?_, h3, h4⟩
    cases hg : goodL l with
    | false => rfl
    | true =>
      rw [Bool.true_and, decide_eq_false_iff_not]
      intro h6
      exact h5 l ⟨by rw [h2]; exact good_nums hg, by rw [h6]; rfl⟩
theorem notE (ps : List (Nat × Int)) : ((lookF formsL (wordL (engL ++ textL ps))).getD (0, 0)).1 ≠ 1 ∧ ((lookF formsL (wordL (engL ++ textL ps))).getD (0, 0)).1 ≠ 3 :=
  notV _ (by rw [(word_text ps).1]; exact lookE) rfl
set_option maxHeartbeats 2000000 in
theorem f5  : Fc Tryz.prog 5 [] [] (Just (aB true)) := by
  refine Fc.enter Tryz.func5 rfl Tryz.ntmps5 rfl fun X w => ?_
  refine T.rg ?_
  refine L.as rfl rfl ?_
  refine L.nil ?_
  refine T.rg ?_
  refine L.call e8 rfl rfl (f8 lineA (by decide) (notV _ lookT rfl).1 (notV _ lookT rfl).2) ?_
  rintro _ _ ⟨rfl, e, cs, rfl, hP⟩
  obtain ⟨rfl, rfl⟩ := parseA hP
  refine L.mv rfl rfl ?_
  refine L.ex rfl rfl rfl ?_
  refine L.ex rfl rfl rfl ?_
  refine L.alloc z40 rfl rfl fun b1 => ?_
  refine L.stog 0 s40 rfl rfl rfl rfl rfl rfl ?_
  refine L.as rfl rfl ?_
  refine L.nil ?_
  refine T.rg ?_
  refine L.call e8 rfl rfl (f8 tickL (by decide) (notV _ lookT2 rfl).1 (notV _ lookT2 rfl).2) ?_
  rintro _ _ ⟨rfl, e, cs, rfl, hP2⟩
  obtain ⟨rfl, rfl⟩ := parseB hP2
  refine L.mv rfl rfl ?_
  refine L.ex rfl rfl rfl ?_
  refine L.ex rfl rfl rfl ?_
  refine L.alloc z40 rfl rfl fun b3 => ?_
  refine L.stog 0 s40 rfl rfl rfl rfl rfl rfl ?_
  refine L.as rfl rfl ?_
  refine L.nil ?_
  refine T.rg ?_
  refine L.mv rfl rfl ?_
  refine L.cmp rfl rfl rfl rfl ?_
  refine L.setB (t := 14) (b' := true) rfl (by decide) ?_
  refine L.mv rfl rfl ?_
  refine L.on rfl rfl ?_
  refine L.fa Tryz.underlying40 rfl s9 rfl rfl ?_
  refine L.on rfl rfl ?_
  refine L.ld 1 o9 rfl rfl rfl rfl ?_
  refine L.on rfl rfl ?_
  refine L.eqS rfl rfl rfl ?_
  refine L.setB (t := 18) (b' := true) rfl (by decide) ?_
  refine L.pkT rfl rfl rfl ?_
  refine L.mv rfl rfl ?_
  refine L.on rfl rfl ?_
  refine L.fa Tryz.underlying40 rfl s22 rfl rfl ?_
  refine L.on rfl rfl ?_
  refine L.ld 1 o22 rfl rfl rfl rfl ?_
  refine L.on rfl rfl ?_
  refine L.bsD rfl Tryz.underlying22 i3 rfl rfl rfl rfl rfl ?_
  refine L.on rfl rfl ?_
  refine L.call e9 rfl rfl (f9 [5] [5]) ?_
  rintro _ _ ⟨rfl, rfl⟩
  refine L.setB (t := 24) (b' := true) rfl (by decide) ?_
  refine L.pkT rfl rfl rfl ?_
  refine L.mv rfl rfl ?_
  refine L.on rfl rfl ?_
  refine L.mv rfl rfl ?_
  refine L.on rfl rfl ?_
  refine L.cmp rfl rfl rfl rfl ?_
  refine L.setB (t := 28) (b' := true) rfl (by decide) ?_
  refine L.pkT rfl rfl rfl ?_
  refine L.mv rfl rfl ?_
  refine L.on rfl rfl ?_
  refine L.call e14 rfl rfl (f14 (mkB engL)) ?_
  rintro _ _ ⟨rfl, rfl⟩
  rw [lookE]
  refine L.on rfl rfl ?_
  refine L.cmp rfl rfl rfl rfl ?_
  refine L.setB (t := 32) (b' := true) rfl (by decide) ?_
  refine L.pkT rfl rfl rfl ?_
  refine L.as rfl rfl ?_
  refine L.nil ?_
  refine T.ret ?_
  refine G.conv (drop_at (i := 0) rfl rfl) ?_
  refine G.conv (drop_at (i := 0) rfl rfl) ?_
  exact G.ret (res1 Tryz.results5 rfl) ⟨rfl, rfl⟩

set_option maxHeartbeats 4000000 in
theorem f3 (x : Obj) (hx : TabX x) (l0 : List Int) (hl0 : ∀ n ∈ l0, n ≤ 9223372036854775807) (bl : Int) : Fc Tryz.prog 3 [L_ 1 (ints l0), N_ bl] [.raw 1 x] (fun y Ω => Ω = [.raw 1 x] ∧ y = aB true) := by
  refine Fc.enter Tryz.func3 rfl Tryz.ntmps3 rfl fun X w => ?_
  refine T.rg ?_
  refine L.as rfl rfl ?_
  refine L.nil ?_
  refine T.of_seq ?_
  refine T.rg ?_
  refine L.call e5 rfl rfl f5 ?_
  rintro _ _ ⟨rfl, rfl⟩
  refine L.not rfl rfl ?_
  refine L.nil ?_
  refine T.condF rfl ?_
  refine T.skip ?_
  refine T.go (fun _ _ h => h) ?_
  refine T.rg ?_
  refine L.mv rfl rfl ?_
  refine L.mv rfl rfl ?_
  refine L.lenL Tryz.underlying22 rfl rfl fun hl18 => ?_
  rw [ints_len] at hl18 ⊢
  refine L.min2 rfl rfl rfl ?_
  obtain ⟨q, hq, hq8, hql⟩ : ∃ q : Nat, (if (8 : Int) < (l0.length : Int) then (8 : Int) else (l0.length : Int)) = (q : Int) ∧ q ≤ 8 ∧ q ≤ l0.length := by
    by_cases h : (8 : Int) < (l0.length : Int)
    · exact ⟨8, by rw [if_pos h]; rfl, by omega, by omega⟩
    · exact ⟨l0.length, by rw [if_neg h], by omega, Nat.le_refl _⟩
  refine L.setV (t := 19) (y := aN (q : Int)) rfl (congrArg aN hq) ?_
  refine L.slL 0 q Tryz.underlying22 s3 rfl rfl ⟨_, rfl⟩ ⟨by omega, by rw [ints_len]; exact hql⟩ rfl ?_
  rw [show ((ints l0).drop 0).take (q - 0) = ints (l0.take q) by simp [ints, List.map_take]]
  obtain ⟨l, hl⟩ : ∃ l, l0.take q = l := ⟨_, rfl⟩
  rw [hl]
  have hl8 : l.length ≤ 8 := by rw [← hl, List.length_take]; omega
  have hlm : ∀ n ∈ l, n ≤ 9223372036854775807 := fun n hn => hl0 n (List.mem_of_mem_take (by rw [hl]; exact hn))
  clear hl
  refine L.as rfl rfl ?_
  refine L.nil ?_
  refine T.rg ?_
  refine L.as rfl rfl ?_
  refine L.nil ?_
  refine T.rg ?_
  refine L.mv rfl rfl ?_
  refine L.lenL Tryz.underlying22 rfl rfl fun hl22 => ?_
  rw [ints_len] at hl22 ⊢
  refine L.cmp rfl rfl rfl rfl ?_
  refine L.setB (t := 23) (b' := decide (l.length = 5)) rfl (by by_cases h : l.length = 5 <;> simp [h] <;> omega) ?_
  refine L.as rfl rfl ?_
  refine L.nil ?_
  refine T.of_seq ?_
  refine T.rg ?_
  refine L.mv rfl rfl ?_
  refine L.lenL Tryz.underlying22 rfl rfl fun hl25 => ?_
  rw [ints_len] at hl25 ⊢
  refine L.mv rfl rfl ?_
  refine L.nil ?_
  refine T.block ?_
  refine T.loop (fun m σ Ω => ∃ (k : Nat) (ps : List (Nat × Int)), k ≤ l.length ∧ m = l.length - k ∧ ps.map Prod.snd = l.take k ∧ (∀ p ∈ ps, p.1 ≤ 3 ∧ p.2 ≤ 9223372036854775807) ∧ σ = [(26, aN k), (25, aN l.length), (24, aL 1 (ints l)), (6, aB (goodL (l.take k) && decide (l.length = 5))), (5, aS (mkB (engL ++ textL ps))), (1, aN bl), (0, aL 1 (ints l))] ∧ Ω = [.raw 1 x]) (l.length) _ (⟨0, [], Nat.zero_le _, rfl, rfl, by simp, rfl, rfl⟩) (by repeat constructor) ?_
  rintro m σ Ω ⟨k, ps, hk, rfl, hps, hpb, rfl, rfl⟩
  have hsb : ps.length = k := by have := congrArg List.length hps; simp [List.length_take] at this; omega
  have htl := textL_len ps hpb
  refine T.rg ?_
  refine L.cmp rfl rfl rfl rfl ?_
  refine L.nil ?_
  refine T.of_seq ?_
  refine T.cond rfl (fun h27 => ?_) (fun h27 => ?_)
  · skip
    have hlt : k < l.length := by have := of_decide_eq_true h27; omega
    refine T.skip ?_
    refine T.go (fun _ _ h => h) ?_
    refine T.of_seq ?_
    refine T.block ?_
    refine T.rg ?_
    refine L.ixL k _ Tryz.underlying22 s3 rfl rfl rfl (ints_get hlt) rfl ?_
    refine L.li o3 rfl rfl ?_
    refine L.as rfl rfl ?_
    refine L.nil ?_
    refine T.of_seq ?_
    refine T.rg ?_
    refine L.mv rfl rfl ?_
    refine L.and3 rfl rfl rfl fun z hz0 hz3 => ?_
    refine L.ar ((z.toNat + 1 : Nat) : Int) rfl rfl rfl (by omega) rfl ?_
    refine L.mv rfl rfl ?_
    refine L.nil ?_
    refine T.block ?_
    refine T.loop (fun m σ Ω => ∃ j : Nat, j ≤ z.toNat + 1 ∧ m = z.toNat + 1 - j ∧ σ = [(33, aN j), (32, aN ((z.toNat + 1 : Nat) : Int)), (8, aN l[k]), (26, aN k), (25, aN l.length), (24, aL 1 (ints l)), (6, aB (goodL (l.take k) && decide (l.length = 5))), (5, aS (mkB ((engL ++ textL ps) ++ blkL j))), (1, aN bl), (0, aL 1 (ints l))] ∧ Ω = [.raw 1 x]) (z.toNat + 1) _ (⟨0, Nat.zero_le _, rfl, rfl, rfl⟩) (by refine ⟨rfl, rfl, rfl, rfl, rfl, rfl, rfl, ?_, rfl, rfl, trivial⟩; exact congrArg (fun q => some (aS (mkB q))) (by show _ = _ ++ []; rw [List.append_nil])) ?_
    rintro m σ Ω ⟨j, hj, rfl, rfl, rfl⟩
    refine T.rg ?_
    refine L.cmp rfl rfl rfl rfl ?_
    refine L.nil ?_
    refine T.of_seq ?_
    refine T.cond rfl (fun h34 => ?_) (fun h34 => ?_)
    · skip
      have hlj : j < z.toNat + 1 := by have := of_decide_eq_true h34; omega
      refine T.skip ?_
      refine T.go (fun _ _ h => h) ?_
      refine T.of_seq ?_
      refine T.block ?_
      refine T.region ?_
      refine L.mv rfl rfl ?_
      refine L.addS rfl rfl (by rw [mkB_size]; show _ + 1 ≤ _; simp [blkL]; omega) rfl ?_
      rw [show (⟨#[32]⟩ : ByteArray) = mkB [32] from rfl, mkB_app, show ((engL ++ textL ps) ++ blkL j) ++ [32] = (engL ++ textL ps) ++ blkL (j + 1) by rw [List.append_assoc]; congr 1; simp [blkL, List.replicate_succ']]
      refine L.as rfl rfl ?_
      refine L.last ?_
      refine T.go (fun _ _ h => h) ?_
      refine T.region ?_
      refine L.ar ((j + 1 : Nat) : Int) rfl rfl rfl (by omega) rfl ?_
      refine L.mv rfl rfl ?_
      refine L.last ?_
      refine G.round (z.toNat + 1 - (j + 1)) _ (by omega) ⟨j + 1, by omega, rfl, rfl, rfl⟩ (by repeat constructor)
    · skip
      have hgj : j = z.toNat + 1 := by have := of_decide_eq_false h34; omega
      subst hgj
      refine T.exit ?_
      refine T.go (fun _ _ h => h) ?_
      refine T.rg ?_
      refine L.mv rfl rfl ?_
      refine L.call e6 rfl rfl (f6 l[k] (hlm _ (List.getElem_mem hlt))) ?_
      rintro _ _ ⟨rfl, rfl⟩
      have hdl := digL_len l[k] (hlm _ (List.getElem_mem hlt))
      refine L.as rfl rfl ?_
      refine L.nil ?_
      refine T.rg ?_
      refine L.mv rfl rfl ?_
      refine L.mv rfl rfl ?_
      refine L.addS rfl rfl (by rw [mkB_size, mkB_size]; simp [blkL]; omega) rfl ?_
      rw [mkB_app, show ((engL ++ textL ps) ++ blkL (z.toNat + 1)) ++ digL l[k] = engL ++ textL (ps ++ [(z.toNat, l[k])]) by rw [textL_snoc]; simp]
      refine L.as rfl rfl ?_
      refine L.nil ?_
      refine T.rg ?_
      refine L.mv rfl rfl ?_
      refine L.callO [] [_] [] rfl e7 rfl rfl (f7 x hx (digL l[k]) (by omega)) ?_
      rintro _ _ ⟨rfl, vr, rfl⟩
      have hdn := dig_num l[k]
      refine L.mv rfl rfl ?_
      refine L.ex rfl rfl rfl ?_
      refine L.ex rfl rfl rfl ?_
      refine L.as rfl rfl ?_
      refine L.as rfl rfl ?_
      refine L.nil ?_
      refine T.rg ?_
      refine L.mv rfl rfl ?_
      refine L.not rfl rfl ?_
      refine L.mv rfl rfl ?_
      refine L.caseB 50 rfl (fun h50 => ?_) (fun h50 => ?_)
      · skip
        have hgd : false = (goodL (l.take (k + 1)) && decide (l.length = 5)) := by
          rw [take_snoc1 l hlt, good_snoc]
          rcases hdn with ⟨h1, _⟩ | ⟨h1, h2, _⟩
          · have : decide (0 ≤ l[k]) = false := by simp; omega
            rw [this]; simp
          · rw [h2] at h50; have : decide (l[k] ≤ 2147483647) = false := by simpa using h50
            rw [this]; simp
        refine L.off rfl rfl rfl rfl ?_
        refine L.off rfl rfl rfl rfl ?_
        refine L.pkT rfl rfl rfl ?_
        refine L.nil ?_
        refine T.condT rfl ?_
        refine T.region ?_
        refine L.as rfl rfl ?_
        refine L.last ?_
        refine T.go (fun _ _ h => h) ?_
        refine T.region ?_
        refine L.setB (t := 6) (b' := (goodL (l.take (k + 1)) && decide (l.length = 5))) rfl hgd ?_
        refine L.ar ((k + 1 : Nat) : Int) rfl rfl rfl (by omega) rfl ?_
        refine L.mv rfl rfl ?_
        refine L.last ?_
        refine G.round (l.length - (k + 1)) _ (by omega) ⟨k + 1, ps ++ [(z.toNat, l[k])], by omega, rfl, by rw [List.map_append, hps, take_snoc1 l hlt]; rfl, fun p hp => by
          rcases List.mem_append.1 hp with h | h
          · exact hpb p h
          · obtain rfl := List.mem_singleton.1 h; exact ⟨by show z.toNat ≤ 3; omega, hlm _ (List.getElem_mem hlt)⟩, rfl, rfl⟩ (by repeat constructor)
      · skip
        refine L.on rfl rfl ?_
        refine L.mv rfl rfl ?_
        refine L.on rfl rfl ?_
        refine L.cmp rfl rfl rfl rfl ?_
        refine L.pkF rfl rfl rfl ?_
        refine L.nil ?_
        refine T.cond rfl (fun h53 => ?_) (fun h53 => ?_)
        · skip
          have hgd : false = (goodL (l.take (k + 1)) && decide (l.length = 5)) := by
            rw [take_snoc1 l hlt, good_snoc]
            have h1 := of_decide_eq_true h53
            have : decide (0 ≤ l[k]) = false := by simp; omega
            rw [this]; simp
          refine T.region ?_
          refine L.as rfl rfl ?_
          refine L.last ?_
          refine T.go (fun _ _ h => h) ?_
          refine T.region ?_
          refine L.setB (t := 6) (b' := (goodL (l.take (k + 1)) && decide (l.length = 5))) rfl hgd ?_
          refine L.ar ((k + 1 : Nat) : Int) rfl rfl rfl (by omega) rfl ?_
          refine L.mv rfl rfl ?_
          refine L.last ?_
          refine G.round (l.length - (k + 1)) _ (by omega) ⟨k + 1, ps ++ [(z.toNat, l[k])], by omega, rfl, by rw [List.map_append, hps, take_snoc1 l hlt]; rfl, fun p hp => by
            rcases List.mem_append.1 hp with h | h
            · exact hpb p h
            · obtain rfl := List.mem_singleton.1 h; exact ⟨by show z.toNat ≤ 3; omega, hlm _ (List.getElem_mem hlt)⟩, rfl, rfl⟩ (by repeat constructor)
        · skip
          have hgd : (goodL (l.take k) && decide (l.length = 5)) = (goodL (l.take (k + 1)) && decide (l.length = 5)) := by
            rw [take_snoc1 l hlt, good_snoc]
            have h1 := of_decide_eq_false h53
            rcases hdn with ⟨h2, _⟩ | ⟨h2, h3, _⟩
            · omega
            · rw [h3] at h50; have h4 : decide (l[k] ≤ 2147483647) = true := by simpa using h50
              rw [h4, decide_eq_true h2]; simp
          refine T.skip ?_
          refine T.go (fun _ _ h => h) ?_
          refine T.region ?_
          refine L.setB (t := 6) (b' := (goodL (l.take (k + 1)) && decide (l.length = 5))) rfl hgd ?_
          refine L.ar ((k + 1 : Nat) : Int) rfl rfl rfl (by omega) rfl ?_
          refine L.mv rfl rfl ?_
          refine L.last ?_
          refine G.round (l.length - (k + 1)) _ (by omega) ⟨k + 1, ps ++ [(z.toNat, l[k])], by omega, rfl, by rw [List.map_append, hps, take_snoc1 l hlt]; rfl, fun p hp => by
            rcases List.mem_append.1 hp with h | h
            · exact hpb p h
            · obtain rfl := List.mem_singleton.1 h; exact ⟨by show z.toNat ≤ 3; omega, hlm _ (List.getElem_mem hlt)⟩, rfl, rfl⟩ (by repeat constructor)
  · skip
    have hge : l.length ≤ k := by have := of_decide_eq_false h27; omega
    refine T.exit ?_
    refine T.go (fun _ _ h => h) ?_
    refine T.rg ?_
    have hlk : l.take k = l := List.take_of_length_le hge
    rw [hlk] at hps ⊢
    refine L.mv rfl rfl ?_
    refine L.call e8 rfl rfl (f8 (engL ++ textL ps) (by rw [List.length_append]; show 6 + _ ≤ _; omega) (notE ps).1 (notE ps).2) ?_
    rintro _ _ ⟨rfl, e, cs, rfl, hP⟩
    rcases line_text ps hps hP with ⟨hgood, rfl, rfl⟩ | ⟨hgood, rfl, rfl⟩
    · skip
      refine L.setB (t := 6) (b' := true) rfl hgood ?_
      skip
      refine L.mv rfl rfl ?_
      refine L.ex rfl rfl rfl ?_
      refine L.ex rfl rfl rfl ?_
      refine L.alloc z40 rfl rfl fun b12 => ?_
      refine L.stog 0 s40 rfl rfl rfl rfl rfl rfl ?_
      refine L.as rfl rfl ?_
      refine L.nil ?_
      refine T.rg ?_
      refine L.mv rfl rfl ?_
      refine L.cmp rfl rfl rfl rfl ?_
      refine L.setB (t := 61) (b' := true) rfl (by decide) ?_
      refine L.mv rfl rfl ?_
      refine L.eqBB Tryz.underlying4 rfl rfl rfl ?_
      refine L.setB (t := 63) (b' := true) rfl (rfl) ?_
      refine L.mv rfl rfl ?_
      refine L.on rfl rfl ?_
      refine L.mv rfl rfl ?_
      refine L.on rfl rfl ?_
      refine L.not rfl rfl ?_
      refine L.on rfl rfl ?_
      refine L.mv rfl rfl ?_
      refine L.on rfl rfl ?_
      refine L.fa Tryz.underlying40 rfl s22 rfl rfl ?_
      refine L.on rfl rfl ?_
      refine L.ld 0 o22 rfl rfl rfl rfl ?_
      refine L.on rfl rfl ?_
      refine L.mv rfl rfl ?_
      refine L.on rfl rfl ?_
      refine L.call e9 rfl rfl (f9 l l) ?_
      rintro _ _ ⟨rfl, rfl⟩
      refine L.setB (t := 71) (b' := true) rfl (decide_eq_true rfl) ?_
      refine L.on rfl rfl ?_
      refine L.pkF rfl rfl rfl ?_
      refine L.pkT rfl rfl rfl ?_
      refine L.as rfl rfl ?_
      refine L.nil ?_
      refine T.ret ?_
      refine G.conv (drop_at (i := 0) rfl rfl) ?_
      exact G.ret (res1 Tryz.results3 rfl) ⟨rfl, rfl⟩
    · skip
      refine L.setB (t := 6) (b' := false) rfl hgood ?_
      skip
      refine L.mv rfl rfl ?_
      refine L.ex rfl rfl rfl ?_
      refine L.ex rfl rfl rfl ?_
      refine L.alloc z40 rfl rfl fun b12 => ?_
      refine L.stog 0 s40 rfl rfl rfl rfl rfl rfl ?_
      refine L.as rfl rfl ?_
      refine L.nil ?_
      refine T.rg ?_
      refine L.mv rfl rfl ?_
      refine L.cmp rfl rfl rfl rfl ?_
      refine L.setB (t := 61) (b' := false) rfl (by decide) ?_
      refine L.mv rfl rfl ?_
      refine L.eqBB Tryz.underlying4 rfl rfl rfl ?_
      refine L.setB (t := 63) (b' := true) rfl (rfl) ?_
      refine L.mv rfl rfl ?_
      refine L.on rfl rfl ?_
      refine L.mv rfl rfl ?_
      refine L.on rfl rfl ?_
      refine L.not rfl rfl ?_
      refine L.on rfl rfl ?_
      refine L.mv rfl rfl ?_
      refine L.off rfl rfl rfl rfl ?_
      refine L.off rfl rfl rfl rfl ?_
      refine L.off rfl rfl rfl rfl ?_
      refine L.off rfl rfl rfl rfl ?_
      refine L.on rfl rfl ?_
      refine L.pkT rfl rfl rfl ?_
      refine L.pkT rfl rfl rfl ?_
      refine L.as rfl rfl ?_
      refine L.nil ?_
      refine T.ret ?_
      refine G.conv (drop_at (i := 0) rfl rfl) ?_
      exact G.ret (res1 Tryz.results3 rfl) ⟨rfl, rfl⟩
end Go.Proofs.YtimimkdgofiloaaGreatDoor
