/- The fixed facts of layer 30; LineWords. Printed by gen.py. -/
import Derived.Test.YtimimkdgofiloaaGreatDoorS66
import Derived.Test.YtimimkdgofiloaaGreatDoorS65
namespace Go.Proofs.YtimimkdgofiloaaGreatDoor
open Go Go.Q
abbrev tickL : List UInt8 := [116, 105, 99, 107]
abbrev lineA : List UInt8 := [32, 116, 105, 99, 107, 32, 32, 53]
abbrev engL : List UInt8 := [101, 110, 103, 105, 110, 101]
theorem take_snoc1 {α : Type} (l : List α) {k : Nat} (h : k < l.length) : l.take (k + 1) = l.take k ++ [l[k]] := by rw [List.take_add_one, List.getElem?_eq_getElem h]; rfl
theorem parseA {e : Int} {cs : List CV} (h : ParseN lineA e cs) : e = 0 ∧ cs = stepC (mkB tickL) (.d (.l 1 (ints [5]))) := by
  have h1 : lookF formsL (wordL lineA) = some (2, 1) := by kernel_rfl
  have h2 : restL lineA = [32, 53] := by kernel_rfl
  have h3 : fieldsL [32, 53] = [[53]] := by kernel_rfl
  have h4 : numW [53] = some 5 := by kernel_rfl
  have h5 : wordL lineA = mkB tickL := by kernel_rfl
  unfold ParseN at h
  rw [h1, h2, h5] at h
  have hn : NumsN [32, 53] 1 [5] := ⟨⟨by rw [h3]; simp [h4], by simp⟩, rfl⟩
  rcases h with ⟨ns, hns, rfl, rfl⟩ | ⟨_, _, h6⟩
  · rw [nums_one hns.1 hn.1]; exact ⟨rfl, rfl⟩
  · exact absurd hn (h6 _)
theorem parseB {e : Int} {cs : List CV} (h : ParseN tickL e cs) : e = 2 ∧ cs = noneC := by
  have h1 : lookF formsL (wordL tickL) = some (2, 1) := by kernel_rfl
  have h2 : restL tickL = [] := by kernel_rfl
  have h3 : fieldsL [] = [] := by kernel_rfl
  unfold ParseN at h
  rw [h1, h2] at h
  rcases h with ⟨ns, hns, _⟩ | ⟨h5, h6, _⟩
  · have := hns.1.len
    rw [h3] at this
    have h7 := hns.2
    rw [this] at h7; cases h7
  · exact ⟨h5, h6⟩
theorem notV (l : List UInt8) {q : Int × Int} (h : lookF formsL (wordL l) = some q) (h1 : q.1 = 2) : ((lookF formsL (wordL l)).getD (0, 0)).1 ≠ 1 ∧ ((lookF formsL (wordL l)).getD (0, 0)).1 ≠ 3 := by
  rw [h]; simp [h1]
theorem lookT : lookF formsL (wordL lineA) = some (2, 1) := by kernel_rfl
theorem lookT2 : lookF formsL (wordL tickL) = some (2, 1) := by kernel_rfl
theorem lookE : lookF formsL (mkB engL) = some (2, 5) := by kernel_rfl

/-- So many sevens. -/
def sevL : Nat → List UInt8
  | 0 => []
  | n + 1 => sevL n ++ [32, 55]
def restN (n : Nat) : List UInt8 := (sevL n).drop 1
theorem sevL_len : ∀ n, (sevL n).length = 2 * n
  | 0 => rfl
  | n + 1 => by rw [sevL, List.length_append, sevL_len n]; show _ + 2 = _; omega
theorem need_nat (w : ByteArray) : ∃ n : Nat, needR w = (n : Int) ∧ (n = 0 ∨ n = 1 ∨ n = 5) := by
  unfold needR
  split
  · exact ⟨1, rfl, .inr (.inl rfl)⟩
  · split
    · exact ⟨5, rfl, .inr (.inr rfl)⟩
    · exact ⟨0, rfl, .inl rfl⟩
abbrev mountB : ByteArray := ⟨#[109, 111, 117, 110, 116]⟩
abbrev renderB : ByteArray := ⟨#[114, 101, 110, 100, 101, 114]⟩
abbrev findB : ByteArray := ⟨#[102, 105, 110, 100]⟩
theorem forms_kind : ∀ p ∈ formsL, (p.1 ≠ mountB ∧ p.1 ≠ renderB ∧ p.1 ≠ findB) → p.2.1 ≠ 1 ∧ p.2.1 ≠ 3 := by decide +kernel
/-- Is it one of them? -/
def inB (l : List ByteArray) (v : ByteArray) : Bool := l.any fun x => decide (x = v)
theorem inB_step {l : List ByteArray} {k : Nat} (h : k < l.length) (v : ByteArray) : inB (l.take (k + 1)) v = (inB (l.take k) v || decide (l[k] = v)) := by
  unfold inB; rw [List.take_add_one, List.getElem?_eq_getElem h, List.any_append]; simp
theorem forms_words : ∀ p ∈ formsL, inB wordsL p.1 = true := by decide +kernel
theorem words_forms : ∀ w ∈ wordsL, (lookF formsL w).isSome = true := by decide +kernel
theorem known_iff (w : ByteArray) : inB wordsL w = true ↔ (lookF formsL w).isSome = true := ⟨fun h => by
  unfold inB at h
  rw [List.any_eq_true] at h
  obtain ⟨x, hx, he⟩ := h
  obtain rfl := of_decide_eq_true he
  exact words_forms _ hx, fun h => by
  obtain ⟨q, hq⟩ := Option.isSome_iff_exists.1 h
  exact forms_words _ (look_mem hq)⟩
theorem line_of {w : List UInt8} (h : 32 ∉ w) {n : Nat} (hn : n = 0 ∨ n = 1 ∨ n = 5) (h0 : w = [] → n = 0) : wordL (w ++ sevL n) = mkB w ∧ restL (w ++ sevL n) = restN n := by
  have ht : trimL (w ++ sevL n) = w ++ sevL n := by
    cases w with
    | nil => rw [h0 rfl]; rfl
    | cons c w => exact trimL_no (fun e => h (by rw [e]; exact List.mem_cons_self))
  unfold wordL restL
  rw [ht]
  rcases hn with rfl | rfl | rfl
  · rw [show sevL 0 = [] from rfl, List.append_nil, cutL_none h]; exact ⟨rfl, rfl⟩
  · rw [show sevL 1 = 32 :: restN 1 from rfl, cutL_app h]; exact ⟨rfl, rfl⟩
  · rw [show sevL 5 = 32 :: restN 5 from rfl, cutL_app h]; exact ⟨rfl, rfl⟩
theorem nums_rest {n : Nat} (hn : n = 0 ∨ n = 1 ∨ n = 5) : ∃ ns, NumsN (restN n) (n : Int) ns := by
  have h4 : numW [55] = some 7 := by kernel_rfl
  rcases hn with rfl | rfl | rfl
  · exact ⟨[], ⟨by rw [show fieldsL (restN 0) = [] by kernel_rfl]; rfl, by simp⟩, rfl⟩
  · exact ⟨[7], ⟨by rw [show fieldsL (restN 1) = [[55]] by kernel_rfl]; simp [h4], by simp⟩, rfl⟩
  · exact ⟨[7, 7, 7, 7, 7], ⟨by rw [show fieldsL (restN 5) = [[55], [55], [55], [55], [55]] by kernel_rfl]; simp [h4], by simp⟩, rfl⟩
theorem lookM : lookF formsL mountB = some (1, 0) := by kernel_rfl
theorem lookR : lookF formsL renderB = some (1, 0) := by kernel_rfl
theorem lookG : lookF formsL findB = some (3, 0) := by kernel_rfl
/-- A word that wants more than numbers, and nothing behind it. -/
theorem parse_more {w : ByteArray} {e : Int} {cs : List CV} {n : Nat} (hn : needR w = (n : Int)) (hw : w = mountB ∨ w = renderB ∨ w = findB) (h : ParseW (w.data.toList ++ sevL n) e cs) : e = 2 := by
  have h0 : needR mountB = 0 := by kernel_rfl
  have h1 : needR renderB = 0 := by kernel_rfl
  have h2 : needR findB = 0 := by kernel_rfl
  have hno : ∀ v ∈ [mountB, renderB, findB], 32 ∉ v.data.toList := by decide +kernel
  have key : ∀ v : ByteArray, v ∈ [mountB, renderB, findB] → ∀ q : Int × Int, (q.1 = 1 ∨ q.1 = 3) → lookF formsL v = some q → needR v = 0 → w = v → e = 2 := by
    rintro v hv q hq hl hv0 rfl
    have hn0 : n = 0 := by rw [hv0] at hn; omega
    subst hn0
    obtain ⟨h3, h4⟩ := line_of (hno _ hv) (.inl rfl) (fun _ => rfl)
    obtain ⟨_, h⟩ := h
    rw [h3, mkB_self, hl] at h
    exact h.1 hq h4
  rcases hw with hw | hw | hw
  · exact key _ (by simp) _ (.inl rfl) lookM h0 hw
  · exact key _ (by simp) _ (.inl rfl) lookR h1 hw
  · exact key _ (by simp) _ (.inr rfl) lookG h2 hw
/-- Another word: it's read just if it's known. -/
theorem parse_word {w : ByteArray} {e : Int} {cs : List CV} {n : Nat} (hn : needR w = (n : Int)) (hn3 : n = 0 ∨ n = 1 ∨ n = 5) (hs : 32 ∉ w.data.toList) (hw : w ≠ mountB ∧ w ≠ renderB ∧ w ≠ findB) (h : ParseW (w.data.toList ++ sevL n) e cs) :
    (inB wordsL w = true ∧ e = 0 ∧ ∃ ns : List Int, ns.length = n ∧ cs = stepC w (.d (.l 1 (ints ns)))) ∨ (inB wordsL w = false ∧ e ≠ 0) := by
  obtain ⟨h3, h4⟩ := line_of hs hn3 (fun h0 => by
    have hw0 : w = ⟨#[]⟩ := by rw [← mkB_self w, h0]; rfl
    rw [hw0, show needR ⟨#[]⟩ = 0 by kernel_rfl] at hn
    omega)
  rw [mkB_self] at h3
  obtain ⟨_, h⟩ := h
  rw [h3, h4] at h
  cases hl : lookF formsL w with
  | none =>
    rw [hl] at h
    refine .inr ⟨Bool.eq_false_iff.2 fun hk => ?_, by simp only at h; omega⟩
    have := (known_iff w).1 hk
    rw [hl] at this; cases this
  | some q =>
    rw [hl] at h
    have hm := look_mem hl
    obtain ⟨h5, h6⟩ := forms_kind _ hm hw
    have hq : q.2 = (n : Int) := by rw [← hn]; exact (need_forms _ hm).symm
    rcases h.2 h5 h6 with ⟨ns, hns, he, hcs⟩ | ⟨_, hno⟩
    · refine .inl ⟨forms_words _ hm, he, ns, ?_, hcs⟩
      have := hns.2; rw [hq] at this; omega
    · obtain ⟨ns, hns⟩ := nums_rest hn3
      rw [← hq] at hns
      exact absurd hns (hno ns)
theorem no_space {v : ByteArray} {i : Nat} (hlt : i < v.size) (h : 32 ∉ v.data.toList.take i) (hc : ¬ (v[i].toNat : Int) = 32) : 32 ∉ v.data.toList.take (i + 1) := by
  rw [List.take_add_one, List.getElem?_eq_getElem (by simpa using hlt)]
  intro hm
  rcases List.mem_append.1 hm with h1 | h1
  · exact h h1
  · have h2 : (32 : UInt8) = v.data[i] := by simpa using h1
    exact hc (by show ((v.data[i].toNat : Nat) : Int) = 32; rw [← h2]; rfl)
set_option maxHeartbeats 2000000 in
theorem f5  : Fc Tryz.prog 5 [] [] (Just (aB true)) := by
  refine Fc.enter Tryz.func5 rfl Tryz.ntmps5 rfl fun X w => ?_
  refine T.rg ?_
  refine L.as rfl rfl ?_
  refine L.nil ?_
  refine T.rg ?_
  refine L.call e8 rfl rfl (f8 lineA (by decide) (notV _ lookT rfl).1 (notV _ lookT rfl).2) ?_
  rintro _ _ ⟨rfl, e, cs, rfl, hP⟩
  obtain ⟨rfl, rfl⟩ := parseA hP
  refine L.mv rfl rfl ?_
  refine L.ex rfl rfl rfl ?_
  refine L.ex rfl rfl rfl ?_
  refine L.alloc z40 rfl rfl fun b1 => ?_
  refine L.stog 0 s40 rfl rfl rfl rfl rfl rfl ?_
  refine L.as rfl rfl ?_
  refine L.nil ?_
  refine T.rg ?_
  refine L.call e8 rfl rfl (f8 tickL (by decide) (notV _ lookT2 rfl).1 (notV _ lookT2 rfl).2) ?_
  rintro _ _ ⟨rfl, e, cs, rfl, hP2⟩
  obtain ⟨rfl, rfl⟩ := parseB hP2
  refine L.mv rfl rfl ?_
  refine L.ex rfl rfl rfl ?_
  refine L.ex rfl rfl rfl ?_
  refine L.alloc z40 rfl rfl fun b3 => ?_
  refine L.stog 0 s40 rfl rfl rfl rfl rfl rfl ?_
  refine L.as rfl rfl ?_
  refine L.nil ?_
  refine T.rg ?_
  refine L.mv rfl rfl ?_
  refine L.cmp rfl rfl rfl rfl ?_
  refine L.setB (t := 14) (b' := true) rfl (by decide) ?_
  refine L.mv rfl rfl ?_
  refine L.on rfl rfl ?_
  refine L.fa Tryz.underlying40 rfl s9 rfl rfl ?_
  refine L.on rfl rfl ?_
  refine L.ld 1 o9 rfl rfl rfl rfl ?_
  refine L.on rfl rfl ?_
  refine L.eqS rfl rfl rfl ?_
  refine L.setB (t := 18) (b' := true) rfl (by decide) ?_
  refine L.pkT rfl rfl rfl ?_
  refine L.mv rfl rfl ?_
  refine L.on rfl rfl ?_
  refine L.fa Tryz.underlying40 rfl s22 rfl rfl ?_
  refine L.on rfl rfl ?_
  refine L.ld 1 o22 rfl rfl rfl rfl ?_
  refine L.on rfl rfl ?_
  refine L.bsD rfl Tryz.underlying22 i3 rfl rfl rfl rfl rfl ?_
  refine L.on rfl rfl ?_
  refine L.call e9 rfl rfl (f9 [5] [5]) ?_
  rintro _ _ ⟨rfl, rfl⟩
  refine L.setB (t := 24) (b' := true) rfl (by decide) ?_
  refine L.pkT rfl rfl rfl ?_
  refine L.mv rfl rfl ?_
  refine L.on rfl rfl ?_
  refine L.mv rfl rfl ?_
  refine L.on rfl rfl ?_
  refine L.cmp rfl rfl rfl rfl ?_
  refine L.setB (t := 28) (b' := true) rfl (by decide) ?_
  refine L.pkT rfl rfl rfl ?_
  refine L.mv rfl rfl ?_
  refine L.on rfl rfl ?_
  refine L.call e14 rfl rfl (f14 (mkB engL)) ?_
  rintro _ _ ⟨rfl, rfl⟩
  rw [lookE]
  refine L.on rfl rfl ?_
  refine L.cmp rfl rfl rfl rfl ?_
  refine L.setB (t := 32) (b' := true) rfl (by decide) ?_
  refine L.pkT rfl rfl rfl ?_
  refine L.as rfl rfl ?_
  refine L.nil ?_
  refine T.ret ?_
  refine G.conv (drop_at (i := 0) rfl rfl) ?_
  refine G.conv (drop_at (i := 0) rfl rfl) ?_
  exact G.ret (res1 Tryz.results5 rfl) ⟨rfl, rfl⟩

set_option maxHeartbeats 4000000 in
theorem f4 (v0 : ByteArray) : Fc Tryz.prog 4 [S_ v0] [] (Just (aB true)) := by
  refine Fc.enter Tryz.func4 rfl Tryz.ntmps4 rfl fun X w => ?_
  refine T.rg ?_
  refine L.as rfl rfl ?_
  refine L.nil ?_
  refine T.of_seq ?_
  refine T.rg ?_
  refine L.call e5 rfl rfl f5 ?_
  rintro _ _ ⟨rfl, rfl⟩
  refine L.setB (t := 11) (b' := true) rfl (rfl) ?_
  refine L.not rfl rfl ?_
  refine L.nil ?_
  refine T.condF rfl ?_
  refine T.skip ?_
  refine T.go (fun _ _ h => h) ?_
  refine T.rg ?_
  refine L.mv rfl rfl ?_
  refine L.call e10 rfl rfl (f10 v0 20 (by omega)) ?_
  rintro _ _ ⟨rfl, rfl⟩
  obtain ⟨v, hv⟩ : ∃ v, v0.extract 0 20 = v := ⟨_, rfl⟩
  have hvs : v.size ≤ 20 := by rw [← hv, ByteArray.size_extract]; omega
  rw [hv]
  have hvl : v.data.toList.length ≤ 20 := by simpa using hvs
  obtain ⟨n, hn, hneed⟩ := need_nat v
  refine L.as rfl rfl ?_
  refine L.nil ?_
  refine T.rg ?_
  refine L.call e11 rfl rfl f11 ?_
  rintro _ _ ⟨rfl, rfl⟩
  refine L.as rfl rfl ?_
  refine L.nil ?_
  refine T.of_seq ?_
  refine T.rg ?_
  refine L.mv rfl rfl ?_
  refine L.call e13 rfl rfl f13 ?_
  rintro _ _ ⟨rfl, rfl⟩
  refine L.call e12 rfl rfl (f12 wordsL wordsL) ?_
  rintro _ _ ⟨rfl, rfl⟩
  refine L.setB (t := 18) (b' := true) rfl (decide_eq_true rfl) ?_
  refine L.not rfl rfl ?_
  refine L.setB (t := 19) (b' := false) rfl (rfl) ?_
  refine L.mv rfl rfl ?_
  refine L.on rfl rfl ?_
  refine L.mv rfl rfl ?_
  refine L.on rfl rfl ?_
  refine L.call e14 rfl rfl (f14 v) ?_
  rintro _ _ ⟨rfl, rfl⟩
  rw [need_eq]
  refine L.on rfl rfl ?_
  refine L.mv rfl rfl ?_
  refine L.on rfl rfl ?_
  refine L.call e15 rfl rfl (f15 v) ?_
  rintro _ _ ⟨rfl, rfl⟩
  refine L.on rfl rfl ?_
  refine L.cmp rfl rfl rfl rfl ?_
  refine L.setB (t := 25) (b' := false) rfl (by simp) ?_
  refine L.pkF rfl rfl rfl ?_
  refine L.nil ?_
  refine T.condF rfl ?_
  refine T.skip ?_
  refine T.go (fun _ _ h => h) ?_
  refine T.rg ?_
  refine L.as rfl rfl ?_
  refine L.nil ?_
  refine T.of_seq ?_
  refine T.rg ?_
  refine L.mv rfl rfl ?_
  refine L.lenL Tryz.underlying27 rfl rfl fun hl28 => ?_
  refine L.mv rfl rfl ?_
  refine L.nil ?_
  refine T.block ?_
  refine T.loop (fun m σ Ω => ∃ k : Nat, k ≤ wordsL.length ∧ m = wordsL.length - k ∧ σ = [(29, aN k), (28, aN (strs wordsL).length), (27, aL 1 (strs wordsL)), (4, aB (inB (wordsL.take k) v)), (3, aL 1 (strs wordsL)), (0, aS v)] ∧ Ω = []) (wordsL.length) _ (⟨0, Nat.zero_le _, rfl, rfl, rfl⟩) (by repeat constructor) ?_
  rintro m σ Ω ⟨k, hk, rfl, rfl, rfl⟩
  have hlen : (strs wordsL).length = wordsL.length := by simp [strs]
  refine T.rg ?_
  refine L.cmp rfl rfl rfl rfl ?_
  refine L.nil ?_
  refine T.of_seq ?_
  refine T.cond rfl (fun h30 => ?_) (fun h30 => ?_)
  · skip
    have hlt : k < wordsL.length := by have := of_decide_eq_true h30; omega
    have hstep := inB_step hlt v
    refine T.skip ?_
    refine T.go (fun _ _ h => h) ?_
    refine T.of_seq ?_
    refine T.block ?_
    refine T.rg ?_
    refine L.ixL k _ Tryz.underlying27 s9 rfl rfl rfl (strs_get hlt) rfl ?_
    refine L.li o9 rfl rfl ?_
    refine L.as rfl rfl ?_
    refine L.nil ?_
    refine T.region ?_
    refine L.mv rfl rfl ?_
    refine L.mv rfl rfl ?_
    refine L.caseB 34 rfl (fun h34 => ?_) (fun h34 => ?_)
    · skip
      have hk1 : true = inB (wordsL.take (k + 1)) v := by rw [hstep, h34]; rfl
      refine L.off rfl rfl rfl rfl ?_
      refine L.off rfl rfl rfl rfl ?_
      refine L.off rfl rfl rfl rfl ?_
      refine L.pkT rfl rfl rfl ?_
      refine L.as rfl rfl ?_
      refine L.last ?_
      refine T.go (fun _ _ h => h) ?_
      refine T.region ?_
      refine L.setB (t := 4) rfl hk1 ?_
      refine L.ar ((k + 1 : Nat) : Int) rfl rfl rfl (by omega) rfl ?_
      refine L.mv rfl rfl ?_
      refine L.last ?_
      refine G.round (wordsL.length - (k + 1)) _ (by omega) ⟨k + 1, by omega, rfl, rfl, rfl⟩ (by repeat constructor)
    · skip
      have hk1 : decide (wordsL[k] = v) = inB (wordsL.take (k + 1)) v := by rw [hstep, h34]; rfl
      refine L.on rfl rfl ?_
      refine L.mv rfl rfl ?_
      refine L.on rfl rfl ?_
      refine L.mv rfl rfl ?_
      refine L.on rfl rfl ?_
      refine L.eqS rfl rfl rfl ?_
      refine L.pkF rfl rfl rfl ?_
      refine L.as rfl rfl ?_
      refine L.last ?_
      refine T.go (fun _ _ h => h) ?_
      refine T.region ?_
      refine L.setB (t := 4) rfl hk1 ?_
      refine L.ar ((k + 1 : Nat) : Int) rfl rfl rfl (by omega) rfl ?_
      refine L.mv rfl rfl ?_
      refine L.last ?_
      refine G.round (wordsL.length - (k + 1)) _ (by omega) ⟨k + 1, by omega, rfl, rfl, rfl⟩ (by repeat constructor)
  · skip
    have hge : wordsL.length ≤ k := by have := of_decide_eq_false h30; omega
    rw [List.take_of_length_le hge]
    refine T.exit ?_
    refine T.go (fun _ _ h => h) ?_
    refine T.rg ?_
    refine L.mv rfl rfl ?_
    refine L.as rfl rfl ?_
    refine L.nil ?_
    refine T.of_seq ?_
    refine T.rg ?_
    refine L.mv rfl rfl ?_
    refine L.call e15 rfl rfl (f15 v) ?_
    rintro _ _ ⟨rfl, rfl⟩
    rw [hn]
    refine L.mv rfl rfl ?_
    refine L.nil ?_
    refine T.block ?_
    have hnb : n ≤ 5 := by omega
    refine T.loop (fun m σ Ω => ∃ j : Nat, j ≤ n ∧ m = n - j ∧ σ = [(43, aN j), (42, aN n), (7, aS (mkB (v.data.toList ++ sevL j))), (4, aB (inB wordsL v)), (3, aL 1 (strs wordsL)), (0, aS v)] ∧ Ω = []) (n) _ (⟨0, Nat.zero_le _, rfl, rfl, rfl⟩) (by refine ⟨rfl, rfl, ?_, rfl, rfl, rfl, trivial⟩; exact congrArg (fun q => some (aS q)) (by rw [show sevL 0 = [] from rfl, List.append_nil, mkB_self])) ?_
    rintro m σ Ω ⟨j, hj, rfl, rfl, rfl⟩
    refine T.rg ?_
    refine L.cmp rfl rfl rfl rfl ?_
    refine L.nil ?_
    refine T.of_seq ?_
    refine T.cond rfl (fun h44 => ?_) (fun h44 => ?_)
    · skip
      have hlt : j < n := by have := of_decide_eq_true h44; omega
      refine T.skip ?_
      refine T.go (fun _ _ h => h) ?_
      refine T.of_seq ?_
      refine T.block ?_
      refine T.region ?_
      refine L.mv rfl rfl ?_
      have hsl := sevL_len j
      refine L.addS rfl rfl (by rw [mkB_size, List.length_append]; show _ + 2 ≤ _; omega) rfl ?_
      rw [show (⟨#[32, 55]⟩ : ByteArray) = mkB [32, 55] from rfl, mkB_app, List.append_assoc, show sevL j ++ [32, 55] = sevL (j + 1) from rfl]
      refine L.as rfl rfl ?_
      refine L.last ?_
      refine T.go (fun _ _ h => h) ?_
      refine T.region ?_
      refine L.ar ((j + 1 : Nat) : Int) rfl rfl rfl (by omega) rfl ?_
      refine L.mv rfl rfl ?_
      refine L.last ?_
      refine G.round (n - (j + 1)) _ (by omega) ⟨j + 1, by omega, rfl, rfl, rfl⟩ (by repeat constructor)
    · skip
      have hge : j = n := by have := of_decide_eq_false h44; omega
      subst hge
      refine T.exit ?_
      refine T.go (fun _ _ h => h) ?_
      refine T.rg ?_
      refine L.mv rfl rfl ?_
      have hsl := sevL_len j
      refine L.call e8 rfl rfl (f8w (v.data.toList ++ sevL j) (by rw [List.length_append]; omega)) ?_
      rintro _ _ ⟨rfl, e, cs, rfl, hP⟩
      have hcl : cs.length = 17 := hP.1
      refine L.mv rfl rfl ?_
      refine L.ex rfl rfl rfl ?_
      refine L.ex rfl rfl rfl ?_
      refine L.alloc z40 rfl rfl fun b8 => ?_
      refine L.stog 0 s40 rfl rfl rfl rfl (by rw [hcl]; rfl) rfl ?_
      refine L.as rfl rfl ?_
      refine L.nil ?_
      refine T.of_seq ?_
      refine T.rg ?_
      refine L.mv rfl rfl ?_
      refine L.eqS rfl rfl rfl ?_
      refine L.mv rfl rfl ?_
      refine L.caseB 55 rfl (fun h55 => ?_) (fun h55 => ?_)
      · skip
        have hw : v = mountB := of_decide_eq_true h55
        have hmore := parse_more hn (.inl hw) hP
        refine L.off rfl rfl rfl rfl ?_
        refine L.off rfl rfl rfl rfl ?_
        refine L.pkT rfl rfl rfl ?_
        refine L.mv rfl rfl ?_
        refine L.off rfl rfl rfl rfl ?_
        refine L.off rfl rfl rfl rfl ?_
        refine L.pkT rfl rfl rfl ?_
        refine L.nil ?_
        refine T.condT rfl ?_
        refine T.rg ?_
        refine L.mv rfl rfl ?_
        subst hmore
        refine L.cmp rfl rfl rfl rfl ?_
        refine L.as rfl rfl ?_
        refine L.nil ?_
        refine T.ret ?_
        refine G.conv (drop_at (i := 0) rfl rfl) ?_
        exact G.ret (res1 Tryz.results4 rfl) ⟨rfl, rfl⟩
      · skip
        have hw1 : v ≠ mountB := of_decide_eq_false h55
        refine L.on rfl rfl ?_
        refine L.mv rfl rfl ?_
        refine L.on rfl rfl ?_
        refine L.eqS rfl rfl rfl ?_
        refine L.pkF rfl rfl rfl ?_
        refine L.mv rfl rfl ?_
        refine L.caseB 59 rfl (fun h59 => ?_) (fun h59 => ?_)
        · skip
          have hw2 : v = renderB := of_decide_eq_true h59
          have hmore := parse_more hn (.inr (.inl hw2)) hP
          refine L.off rfl rfl rfl rfl ?_
          refine L.off rfl rfl rfl rfl ?_
          refine L.pkT rfl rfl rfl ?_
          refine L.nil ?_
          refine T.condT rfl ?_
          refine T.rg ?_
          refine L.mv rfl rfl ?_
          subst hmore
          refine L.cmp rfl rfl rfl rfl ?_
          refine L.as rfl rfl ?_
          refine L.nil ?_
          refine T.ret ?_
          refine G.conv (drop_at (i := 0) rfl rfl) ?_
          exact G.ret (res1 Tryz.results4 rfl) ⟨rfl, rfl⟩
        · skip
          have hw2 : v ≠ renderB := of_decide_eq_false h59
          refine L.on rfl rfl ?_
          refine L.mv rfl rfl ?_
          refine L.on rfl rfl ?_
          refine L.eqS rfl rfl rfl ?_
          refine L.pkF rfl rfl rfl ?_
          refine L.nil ?_
          refine T.cond rfl (fun h62 => ?_) (fun h62 => ?_)
          · skip
            have hmore := parse_more hn (.inr (.inr (of_decide_eq_true h62))) hP
            refine T.rg ?_
            refine L.mv rfl rfl ?_
            subst hmore
            refine L.cmp rfl rfl rfl rfl ?_
            refine L.as rfl rfl ?_
            refine L.nil ?_
            refine T.ret ?_
            refine G.conv (drop_at (i := 0) rfl rfl) ?_
            exact G.ret (res1 Tryz.results4 rfl) ⟨rfl, rfl⟩
          · skip
            have hw3 : v ≠ findB := of_decide_eq_false h62
            refine T.skip ?_
            refine T.go (fun _ _ h => h) ?_
            refine T.of_seq ?_
            refine T.rg ?_
            refine L.as rfl rfl ?_
            refine L.nil ?_
            refine T.block ?_
            refine T.loop (fun m σ Ω => ∃ i : Nat, i ≤ v.size ∧ m = v.size - i ∧ 32 ∉ v.data.toList.take i ∧ σ = [(10, aN i), (9, aN e), (8, aP b8 0), (4, aB (inB wordsL v)), (3, aL 1 (strs wordsL)), (0, aS v)] ∧ Ω = [.blk b8 40 cs]) (v.size) _ (⟨0, Nat.zero_le _, rfl, by simp, rfl, rfl⟩) (by repeat constructor) ?_
            rintro m σ Ω ⟨i, hi, rfl, hsp, rfl, rfl⟩
            refine T.of_seq ?_
            refine T.rg ?_
            refine L.mv rfl rfl ?_
            refine L.mv rfl rfl ?_
            refine L.lenS Tryz.underlying9 rfl rfl ?_
            refine L.cmp rfl rfl rfl rfl ?_
            refine L.nil ?_
            refine T.cond rfl (fun h68 => ?_) (fun h68 => ?_)
            · skip
              have hlt : i < v.size := by have := of_decide_eq_true h68; omega
              refine T.skip ?_
              refine T.go (fun _ _ h => h) ?_
              refine T.of_seq ?_
              refine T.block ?_
              refine T.rg ?_
              refine L.mv rfl rfl ?_
              refine L.mv rfl rfl ?_
              refine L.ixS i Tryz.underlying9 rfl rfl rfl hlt rfl ?_
              refine L.cmp rfl rfl rfl rfl ?_
              refine L.nil ?_
              refine T.cond rfl (fun h74 => ?_) (fun h74 => ?_)
              · skip
                refine T.rg ?_
                refine L.as rfl rfl ?_
                refine L.nil ?_
                refine T.ret ?_
                refine G.conv (drop_at (i := 0) rfl rfl) ?_
                exact G.ret (res1 Tryz.results4 rfl) ⟨rfl, rfl⟩
              · skip
                refine T.skip ?_
                refine T.go (fun _ _ h => h) ?_
                refine T.region ?_
                refine L.mv rfl rfl ?_
                refine L.ar ((i + 1 : Nat) : Int) rfl rfl rfl (by omega) rfl ?_
                refine L.as rfl rfl ?_
                refine L.last ?_
                refine G.round (v.size - (i + 1)) _ (by omega) ⟨i + 1, by omega, rfl, no_space hlt hsp (by simpa using h74), rfl, rfl⟩ (by repeat constructor)
            · skip
              have hge : v.size ≤ i := by have := of_decide_eq_false h68; omega
              rw [List.take_of_length_le (by simpa using hge)] at hsp
              refine T.exit ?_
              refine T.go (fun _ _ h => h) ?_
              refine T.of_seq ?_
              rcases parse_word hn hneed hsp ⟨hw1, hw2, hw3⟩ hP with ⟨hk, rfl, ns, hns, rfl⟩ | ⟨hk, he⟩ <;> rw [hk]
              · skip
                refine T.drawGD 18 [(9, aN 0), (8, aP b8 0), (4, aB true), (0, aS v)] [aN 0, aB true, aB true, aB true, aB true, aB true, aB false, aB false, aP b8 0, aS v, aS v, aB true, aB true, aP b8 1, aL 1 (ints ns), aN (ns.length : Nat), aS v, aN (j : Nat)] hmixed rfl rfl rfl rfl (by repeat constructor) ⟨?_, ?_, ?_, ?_, ?_, ?_, ?_, ?_, ?_, ?_, ?_, ?_, ?_, ?_, ?_, ?_, ?_, ?_, trivial⟩ ?_
                · intro σ' Ωf hsb hA
                  refine L.mv (hsb.get rfl) rfl ?_
                  exact L.last (G.finGD rfl)
                · intro σ' Ωf hsb hA
                  refine L.cmp (r := true) (hA 0 rfl) rfl rfl rfl ?_
                  exact L.last (G.finGD rfl)
                · intro σ' Ωf hsb hA
                  refine L.mv (hsb.get rfl) rfl ?_
                  exact L.last (G.finGD rfl)
                · intro σ' Ωf hsb hA
                  refine L.eqBB Tryz.underlying4 (hA 1 rfl) (hA 2 rfl) rfl ?_
                  exact L.last (G.finGD rfl)
                · intro σ' Ωf hsb hA
                  refine L.mv (hA 3 rfl) rfl ?_
                  exact L.last (G.finGD rfl)
                · intro σ' Ωf hsb hA
                  refine L.on rfl (hA 4 rfl) ?_
                  refine L.mv (hsb.get rfl) rfl ?_
                  exact L.last (G.finGD rfl)
                · intro σ' Ωf hsb hA
                  refine L.on rfl (hA 4 rfl) ?_
                  refine L.not (hA 5 rfl) rfl ?_
                  exact L.last (G.finGD rfl)
                · intro σ' Ωf hsb hA
                  refine L.on rfl (hA 4 rfl) ?_
                  refine L.mv (hA 6 rfl) rfl ?_
                  exact L.last (G.finGD rfl)
                · intro σ' Ωf hsb hA
                  refine L.on rfl (hA 7 rfl) ?_
                  refine L.fa Tryz.underlying40 rfl s9 (hsb.get rfl) rfl ?_
                  exact L.last (G.finGD rfl)
                · intro σ' Ωf hsb hA
                  refine L.on rfl (hA 7 rfl) ?_
                  refine L.ld 0 o9 (hA 8 rfl) rfl rfl rfl ?_
                  exact L.last (G.finGD rfl)
                · intro σ' Ωf hsb hA
                  refine L.on rfl (hA 7 rfl) ?_
                  refine L.mv (hsb.get rfl) rfl ?_
                  exact L.last (G.finGD rfl)
                · intro σ' Ωf hsb hA
                  refine L.on rfl (hA 7 rfl) ?_
                  refine L.eqS (hA 9 rfl) (hA 10 rfl) rfl ?_
                  rw [decide_eq_true (show v = v from rfl)]
                  exact L.last (G.finGD rfl)
                · intro σ' Ωf hsb hA
                  refine L.on rfl (hA 7 rfl) ?_
                  refine L.mv (hA 11 rfl) rfl ?_
                  exact L.last (G.finGD rfl)
                · intro σ' Ωf hsb hA
                  refine L.on rfl (hA 12 rfl) ?_
                  refine L.fa Tryz.underlying40 rfl s22 (hsb.get rfl) rfl ?_
                  exact L.last (G.finGD rfl)
                · intro σ' Ωf hsb hA
                  refine L.on rfl (hA 12 rfl) ?_
                  refine L.ld 0 o22 (hA 13 rfl) rfl rfl rfl ?_
                  exact L.last (G.finGD rfl)
                · intro σ' Ωf hsb hA
                  refine L.on rfl (hA 12 rfl) ?_
                  refine L.lenL Tryz.underlying22 (hA 14 rfl) rfl fun hl90 => ?_
                  rw [ints_len]
                  exact L.last (G.finGD rfl)
                · intro σ' Ωf hsb hA
                  refine L.on rfl (hA 12 rfl) ?_
                  refine L.mv (hsb.get rfl) rfl ?_
                  exact L.last (G.finGD rfl)
                · intro σ' Ωf hsb hA
                  refine L.on rfl (hA 12 rfl) ?_
                  refine L.call e15 (evs1t (hA 16 rfl)) rfl (f15 v) ?_
                  rintro _ _ ⟨rfl, rfl⟩
                  rw [hn]
                  exact L.last (G.finGD rfl)
                refine L.on rfl rfl ?_
                refine L.cmp rfl rfl rfl rfl ?_
                refine L.setB (t := 93) (b' := true) rfl (by simp [hns]) ?_
                refine L.on rfl rfl ?_
                refine L.pkT rfl rfl rfl ?_
                refine L.on rfl rfl ?_
                refine L.pkF rfl rfl rfl ?_
                refine L.pkT rfl rfl rfl ?_
                refine L.as rfl rfl ?_
                refine L.last ?_
                refine T.go (fun _ _ h => h) ?_
                refine T.ret ?_
                refine G.conv (drop_at (i := 0) rfl rfl) ?_
                exact G.ret (res1 Tryz.results4 rfl) ⟨rfl, rfl⟩
              · skip
                refine T.drawGD 18 [(9, aN e), (8, aP b8 0), (4, aB false), (0, aS v)] [aN e, aB false, aB false, aB true, aB true, aB false, aB true, aB true, .t [], .t [], .t [], .t [], .t [], .t [], .t [], .t [], .t [], .t []] hmixed rfl rfl rfl rfl (by repeat constructor) ⟨?_, ?_, ?_, ?_, ?_, ?_, ?_, ?_, ?_, ?_, ?_, ?_, ?_, ?_, ?_, ?_, ?_, ?_, trivial⟩ ?_
                · intro σ' Ωf hsb hA
                  refine L.mv (hsb.get rfl) rfl ?_
                  exact L.last (G.finGD rfl)
                · intro σ' Ωf hsb hA
                  refine L.cmp (r := false) (hA 0 rfl) rfl (by simp [cmpI, he]) rfl ?_
                  exact L.last (G.finGD rfl)
                · intro σ' Ωf hsb hA
                  refine L.mv (hsb.get rfl) rfl ?_
                  exact L.last (G.finGD rfl)
                · intro σ' Ωf hsb hA
                  refine L.eqBB Tryz.underlying4 (hA 1 rfl) (hA 2 rfl) rfl ?_
                  exact L.last (G.finGD rfl)
                · intro σ' Ωf hsb hA
                  refine L.mv (hA 3 rfl) rfl ?_
                  exact L.last (G.finGD rfl)
                · intro σ' Ωf hsb hA
                  refine L.on rfl (hA 4 rfl) ?_
                  refine L.mv (hsb.get rfl) rfl ?_
                  exact L.last (G.finGD rfl)
                · intro σ' Ωf hsb hA
                  refine L.on rfl (hA 4 rfl) ?_
                  refine L.not (hA 5 rfl) rfl ?_
                  exact L.last (G.finGD rfl)
                · intro σ' Ωf hsb hA
                  refine L.on rfl (hA 4 rfl) ?_
                  refine L.mv (hA 6 rfl) rfl ?_
                  exact L.last (G.finGD rfl)
                · intro σ' Ωf hsb hA
                  refine L.off rfl (hA 7 rfl) rfl rfl ?_
                  exact L.last (G.finGD rfl)
                · intro σ' Ωf hsb hA
                  refine L.off rfl (hA 7 rfl) rfl rfl ?_
                  exact L.last (G.finGD rfl)
                · intro σ' Ωf hsb hA
                  refine L.off rfl (hA 7 rfl) rfl rfl ?_
                  exact L.last (G.finGD rfl)
                · intro σ' Ωf hsb hA
                  refine L.off rfl (hA 7 rfl) rfl rfl ?_
                  exact L.last (G.finGD rfl)
                · intro σ' Ωf hsb hA
                  refine L.off rfl (hA 7 rfl) rfl rfl ?_
                  exact L.last (G.finGD rfl)
                · intro σ' Ωf hsb hA
                  refine L.offU rfl (hA 12 rfl) rfl ?_
                  exact L.last (G.finGD rfl)
                · intro σ' Ωf hsb hA
                  refine L.offU rfl (hA 12 rfl) rfl ?_
                  exact L.last (G.finGD rfl)
                · intro σ' Ωf hsb hA
                  refine L.offU rfl (hA 12 rfl) rfl ?_
                  exact L.last (G.finGD rfl)
                · intro σ' Ωf hsb hA
                  refine L.offU rfl (hA 12 rfl) rfl ?_
                  exact L.last (G.finGD rfl)
                · intro σ' Ωf hsb hA
                  refine L.offU rfl (hA 12 rfl) rfl ?_
                  exact L.last (G.finGD rfl)
                refine L.offU rfl rfl rfl ?_
                refine L.off rfl rfl rfl rfl ?_
                refine L.on rfl rfl ?_
                refine L.pkT rfl rfl rfl ?_
                refine L.pkT rfl rfl rfl ?_
                refine L.as rfl rfl ?_
                refine L.last ?_
                refine T.go (fun _ _ h => h) ?_
                refine T.ret ?_
                refine G.conv (drop_at (i := 0) rfl rfl) ?_
                exact G.ret (res1 Tryz.results4 rfl) ⟨rfl, rfl⟩
end Go.Proofs.YtimimkdgofiloaaGreatDoor
