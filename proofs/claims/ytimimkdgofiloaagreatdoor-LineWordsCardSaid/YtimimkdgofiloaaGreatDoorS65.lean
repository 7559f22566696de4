/- All words, rising. Printed by gen.py. -/
import Derived.Test.YtimimkdgofiloaaGreatDoorS54
import Derived.Test.YtimimkdgofiloaaGreatDoorLz
import Derived.Test.YtimimkdgofiloaaGreatDoorS2
import Derived.Sort.KeysCollected
namespace Go.Proofs.YtimimkdgofiloaaGreatDoor
open Go Go.Q
def wordsL : List ByteArray := [⟨#[97, 117, 100, 105, 116]⟩, ⟨#[99, 97, 110, 99, 101, 108]⟩, ⟨#[99, 108, 111, 99, 107]⟩, ⟨#[101, 110, 100]⟩, ⟨#[101, 110, 103, 105, 110, 101]⟩, ⟨#[101, 114, 97, 115, 101, 100]⟩, ⟨#[102, 105, 110, 100]⟩, ⟨#[102, 114, 97, 109, 101]⟩, ⟨#[104, 111, 111, 107, 115]⟩, ⟨#[108, 111, 111, 107]⟩, ⟨#[109, 111, 117, 110, 116]⟩, ⟨#[112, 101, 110, 100, 105, 110, 103]⟩, ⟨#[114, 101, 99, 116, 115]⟩, ⟨#[114, 101, 110, 100, 101, 114]⟩, ⟨#[114, 101, 115, 116]⟩, ⟨#[115, 104, 111, 119]⟩, ⟨#[116, 105, 99, 107]⟩, ⟨#[117, 110, 109, 111, 117, 110, 116]⟩, ⟨#[118, 105, 101, 119]⟩]
def needR (w : ByteArray) : Int := if w = ⟨#[116, 105, 99, 107]⟩ ∨ w = ⟨#[101, 110, 100]⟩ ∨ w = ⟨#[99, 97, 110, 99, 101, 108]⟩ ∨ w = ⟨#[108, 111, 111, 107]⟩ then 1 else if w = ⟨#[101, 110, 103, 105, 110, 101]⟩ then 5 else 0
theorem need_forms : ∀ p ∈ formsL, needR p.1 = p.2.2 := by decide +kernel
theorem look_mem {l : List FormV} {k : ByteArray} {q : Int × Int} (h : lookF l k = some q) : (k, q) ∈ l := by
  induction l with
  | nil => cases h
  | cons p l ih =>
    rw [lookF] at h
    split at h
    · rename_i hk
      obtain rfl := Option.some.inj h
      rw [← hk]; exact List.mem_cons_self
    · exact List.mem_cons_of_mem _ (ih h)
theorem mem_look {l : List FormV} {p : FormV} (h : p ∈ l) : (lookF l p.1).isSome = true := by
  induction l with
  | nil => cases h
  | cons q l ih =>
    rw [lookF]
    split
    · rfl
    · rename_i hne
      rcases List.mem_cons.1 h with rfl | h1
      · exact absurd rfl hne
      · exact ih h1
theorem need_eq (w : ByteArray) : ((lookF formsL w).getD (0, 0)).2 = needR w := by
  cases h : lookF formsL w with
  | some q => exact (need_forms _ (look_mem h)).symm
  | none =>
    have hno : ∀ p ∈ formsL, p.1 ≠ w := by
      rintro p hp rfl
      have := mem_look hp
      rw [h] at this; cases this
    unfold needR
    rw [if_neg, if_neg]
    · rfl
    · rintro rfl; exact hno (⟨#[101, 110, 103, 105, 110, 101]⟩, 2, 5) (List.mem_of_getElem? (show formsL[2]? = some _ by kernel_rfl)) rfl
    · rintro (rfl | rfl | rfl | rfl)
      · exact hno (⟨#[116, 105, 99, 107]⟩, 2, 1) (List.mem_of_getElem? (show formsL[4]? = some _ by kernel_rfl)) rfl
      · exact hno (⟨#[101, 110, 100]⟩, 2, 1) (List.mem_of_getElem? (show formsL[5]? = some _ by kernel_rfl)) rfl
      · exact hno (⟨#[99, 97, 110, 99, 101, 108]⟩, 2, 1) (List.mem_of_getElem? (show formsL[6]? = some _ by kernel_rfl)) rfl
      · exact hno (⟨#[108, 111, 111, 107]⟩, 2, 1) (List.mem_of_getElem? (show formsL[7]? = some _ by kernel_rfl)) rfl
theorem words_perm : ((formsL.map (·.1)).map fun b => b.data.toList).Perm (wordsL.map fun b => b.data.toList) := by decide +kernel
theorem words_up : (wordsL.map fun b => b.data.toList).Pairwise fun a b => leB a b = true := by decide +kernel
theorem formsN : (formsL.map encF).length = 19 := by kernel_rfl
theorem sorted_words {seen : List Nat} (hn : seen.Nodup) (hb : ∀ k ∈ seen, k < 19) (hall : ∀ k, k < 19 → k ∈ seen) : sortB (seen.map fun k => ((formsL.map encF).getD k (ByteArray.empty, zeroF)).1) = wordsL := by
  have hp : seen.Perm (List.range 19) := (List.perm_ext_iff_of_nodup hn List.nodup_range).2 fun k => ⟨fun h => List.mem_range.2 (hb k h), fun h => hall k (List.mem_range.1 h)⟩
  unfold sortB
  rw [show (fun x y : List UInt8 => decide (x ≤ y)) = leB from rfl]
  have h0 : ((List.range 19).map fun k => ((formsL.map encF).getD k (ByteArray.empty, zeroF)).1) = formsL.map (·.1) := by kernel_rfl
  have h1 := ((hp.map fun k => ((formsL.map encF).getD k (ByteArray.empty, zeroF)).1).map fun b => b.data.toList)
  rw [h0] at h1
  rw [mergeSort_of_perm (h1.trans words_perm), List.mergeSort_of_pairwise words_up]
  rfl
theorem strs_key (f : Nat → ByteArray) (seen : List Nat) (k : Nat) : strs ((seen ++ [k]).map f) = strs (seen.map f) ++ [[D.s (f k)]] := by simp [strs]
theorem seen_len {seen : List Nat} (hn : seen.Nodup) (hb : ∀ k ∈ seen, k < 19) : seen.length ≤ 19 := by
  have := hn.length_le_of_subset (l₂ := List.range 19) fun k hk => List.mem_range.2 (hb k hk)
  simpa using this
theorem eq_take_stepB {a b : List ByteArray} {k : Nat} (hl : a.length = b.length) (hlt : k < a.length) (hx : a.take k = b.take k) (he : a[k] = b[k]'(by omega)) : a.take (k + 1) = b.take (k + 1) := by
  rw [List.take_add_one, List.take_add_one, hx, List.getElem?_eq_getElem hlt, List.getElem?_eq_getElem (by omega), he]
set_option maxHeartbeats 1000000 in
theorem f12 (a b : List ByteArray) : Fc Tryz.prog 12 [L_ 1 (strs a), L_ 1 (strs b)] [] (Just (aB (decide (a = b)))) := by
  refine Fc.enter Tryz.func12 rfl Tryz.ntmps12 rfl fun X w => ?_
  refine T.rg ?_
  refine L.as rfl rfl ?_
  refine L.nil ?_
  refine T.of_seq ?_
  refine T.rg ?_
  refine L.mv rfl rfl ?_
  refine L.lenL Tryz.underlying27 rfl rfl fun hl7 => ?_
  refine L.mv rfl rfl ?_
  refine L.lenL Tryz.underlying27 rfl rfl fun hl9 => ?_
  refine L.cmp rfl rfl rfl rfl ?_
  refine L.nil ?_
  refine T.condD (p := a.length ≠ b.length) rfl (by simp; omega) (fun h10 => ?_) (fun h10 => ?_)
  · skip
    refine T.rg ?_
    refine L.as rfl rfl ?_
    refine L.nil ?_
    refine T.ret ?_
    exact G.ret (res1 Tryz.results12 rfl) ⟨rfl, congrArg aB (by have h0 : a ≠ b := (fun e => h10 (by rw [e])); simp [h0])⟩
  · skip
    refine T.skip ?_
    refine T.go (fun _ _ h => h) ?_
    refine T.of_seq ?_
    refine T.rg ?_
    refine L.mv rfl rfl ?_
    refine L.lenL Tryz.underlying27 rfl rfl fun hl12 => ?_
    refine L.mv rfl rfl ?_
    refine L.nil ?_
    refine T.block ?_
    have hl : a.length = b.length := by omega
    refine T.loop (fun m σ Ω => ∃ k : Nat, k ≤ a.length ∧ m = a.length - k ∧ a.take k = b.take k ∧ σ = [(13, aN k), (12, aN (strs a).length), (1, aL 1 (strs b)), (0, aL 1 (strs a))] ∧ Ω = []) (a.length) _ (⟨0, by omega, by omega, by simp, rfl, rfl⟩) (by repeat constructor) ?_
    rintro m σ Ω ⟨k, hk, rfl, hx, rfl, rfl⟩
    have hlen : (strs a).length = a.length := by simp [strs]
    refine T.rg ?_
    refine L.cmp rfl rfl rfl rfl ?_
    refine L.nil ?_
    refine T.of_seq ?_
    refine T.cond rfl (fun h14 => ?_) (fun h14 => ?_)
    · skip
      have hlt : k < a.length := by simpa [strs] using h14
      have hlt2 : k < b.length := by omega
      refine T.skip ?_
      refine T.go (fun _ _ h => h) ?_
      refine T.of_seq ?_
      refine T.block ?_
      refine T.rg ?_
      refine L.mv rfl rfl ?_
      refine L.as rfl rfl ?_
      refine L.nil ?_
      refine T.of_seq ?_
      refine T.drawD 8 [(0, aL 1 (strs a)), (1, aL 1 (strs b)), (5, aN k), (12, aN (strs a).length), (13, aN k)] [aL 1 (strs a), aN k, .v (.c (.ip [D.s a[k]])), aS a[k], aL 1 (strs b), aN k, .v (.c (.ip [D.s b[k]])), aS b[k]] hmixed rfl rfl rfl rfl (by repeat constructor) ⟨?_, ?_, ?_, ?_, ?_, ?_, ?_, ?_, trivial⟩ ?_
      · intro σ' Ωf hsb hA
        refine L.mv (hsb.get rfl) rfl ?_
        exact L.last (G.finD rfl)
      · intro σ' Ωf hsb hA
        refine L.mv (hsb.get rfl) rfl ?_
        exact L.last (G.finD rfl)
      · intro σ' Ωf hsb hA
        refine L.ixL k _ Tryz.underlying27 s9 (hA 0 rfl) (hA 1 rfl) rfl (strs_get hlt) rfl ?_
        exact L.last (G.finD rfl)
      · intro σ' Ωf hsb hA
        refine L.li o9 (hA 2 rfl) rfl ?_
        exact L.last (G.finD rfl)
      · intro σ' Ωf hsb hA
        refine L.mv (hsb.get rfl) rfl ?_
        exact L.last (G.finD rfl)
      · intro σ' Ωf hsb hA
        refine L.mv (hsb.get rfl) rfl ?_
        exact L.last (G.finD rfl)
      · intro σ' Ωf hsb hA
        refine L.ixL k _ Tryz.underlying27 s9 (hA 4 rfl) (hA 5 rfl) rfl (strs_get hlt2) rfl ?_
        exact L.last (G.finD rfl)
      · intro σ' Ωf hsb hA
        refine L.li o9 (hA 6 rfl) rfl ?_
        exact L.last (G.finD rfl)
      refine L.neS rfl rfl rfl ?_
      refine L.last ?_
      refine T.go (fun _ _ h => h) ?_
      refine T.cond rfl (fun h24 => ?_) (fun h24 => ?_)
      · skip
        refine T.rg ?_
        refine L.as rfl rfl ?_
        refine L.nil ?_
        refine T.ret ?_
        exact G.ret (res1 Tryz.results12 rfl) ⟨rfl, congrArg aB (by have h0 : a ≠ b := (fun e => (by subst e; simp at h24)); simp [h0])⟩
      · skip
        refine T.skip ?_
        refine T.go (fun _ _ h => h) ?_
        refine T.region ?_
        refine L.ar ((k + 1 : Nat) : Int) rfl rfl rfl (by omega) rfl ?_
        refine L.mv rfl rfl ?_
        refine L.last ?_
        refine G.round (a.length - (k + 1)) _ (by omega) ⟨k + 1, by omega, rfl, eq_take_stepB hl hlt hx (by simpa using h24), rfl, rfl⟩ (by repeat constructor)
    · skip
      have hge : a.length ≤ k := by simpa [strs] using h14
      refine T.exit ?_
      refine T.go (fun _ _ h => h) ?_
      refine T.rg ?_
      refine L.as rfl rfl ?_
      refine L.nil ?_
      refine T.ret ?_
      exact G.ret (res1 Tryz.results12 rfl) ⟨rfl, congrArg aB (by rw [List.take_of_length_le hge, List.take_of_length_le (by omega)] at hx; simp [hx])⟩

set_option maxHeartbeats 400000 in
theorem f13  : Fc Tryz.prog 13 [] [] (Just (aL 1 (strs wordsL))) := by
  refine Fc.enter Tryz.func13 rfl Tryz.ntmps13 rfl fun X w => ?_
  refine T.rg ?_
  refine L.as rfl rfl ?_
  refine L.nil ?_
  refine T.rg ?_
  refine L.bsD rfl Tryz.underlying27 i9 rfl rfl rfl rfl rfl ?_
  refine L.as rfl rfl ?_
  refine L.nil ?_
  refine T.ret ?_
  exact G.ret (res1 Tryz.results13 rfl) ⟨rfl, rfl⟩

set_option maxHeartbeats 400000 in
theorem f15 (w : ByteArray) : Fc Tryz.prog 15 [S_ w] [] (Just (aN (needR w))) := by
  refine Fc.enter Tryz.func15 rfl Tryz.ntmps15 rfl fun X w => ?_
  refine T.rg ?_
  refine L.as rfl rfl ?_
  refine L.nil ?_
  refine T.of_seq ?_
  refine T.rg ?_
  refine L.mv rfl rfl ?_
  refine L.nil ?_
  refine T.block ?_
  refine T.of_seq ?_
  refine T.rg ?_
  refine L.eqS rfl rfl rfl ?_
  refine L.as rfl rfl ?_
  refine L.nil ?_
  refine T.cond rfl (fun h4 => ?_) (fun h4 => ?_)
  · skip
    refine T.skip ?_
    refine T.go (fun _ _ h => h) ?_
    refine T.cond rfl (fun h4 => ?_) (fun h4 => ?_)
    · skip
      refine T.rg ?_
      refine L.as rfl rfl ?_
      refine L.nil ?_
      refine T.ret ?_
      exact G.ret (res1 Tryz.results15 rfl) ⟨rfl, congrArg aN (by simp_all [needR])⟩
    · skip
      refine T.rg ?_
      refine L.eqS rfl rfl rfl ?_
      refine L.as rfl rfl ?_
      refine L.nil ?_
      refine T.cond rfl (fun h9 => ?_) (fun h9 => ?_)
      · skip
        refine T.rg ?_
        refine L.as rfl rfl ?_
        refine L.nil ?_
        refine T.ret ?_
        exact G.ret (res1 Tryz.results15 rfl) ⟨rfl, congrArg aN (by simp_all [needR])⟩
      · skip
        refine T.skip ?_
        refine T.go (fun _ _ h => h) ?_
        refine T.rg ?_
        refine L.as rfl rfl ?_
        refine L.nil ?_
        refine T.ret ?_
        exact G.ret (res1 Tryz.results15 rfl) ⟨rfl, congrArg aN (by simp_all [needR])⟩
  · skip
    refine T.rg ?_
    refine L.eqS rfl rfl rfl ?_
    refine L.as rfl rfl ?_
    refine L.nil ?_
    refine T.cond rfl (fun h4 => ?_) (fun h4 => ?_)
    · skip
      refine T.skip ?_
      refine T.go (fun _ _ h => h) ?_
      refine T.cond rfl (fun h4 => ?_) (fun h4 => ?_)
      · skip
        refine T.rg ?_
        refine L.as rfl rfl ?_
        refine L.nil ?_
        refine T.ret ?_
        exact G.ret (res1 Tryz.results15 rfl) ⟨rfl, congrArg aN (by simp_all [needR])⟩
      · skip
        refine T.rg ?_
        refine L.eqS rfl rfl rfl ?_
        refine L.as rfl rfl ?_
        refine L.nil ?_
        refine T.cond rfl (fun h9 => ?_) (fun h9 => ?_)
        · skip
          refine T.rg ?_
          refine L.as rfl rfl ?_
          refine L.nil ?_
          refine T.ret ?_
          exact G.ret (res1 Tryz.results15 rfl) ⟨rfl, congrArg aN (by simp_all [needR])⟩
        · skip
          refine T.skip ?_
          refine T.go (fun _ _ h => h) ?_
          refine T.rg ?_
          refine L.as rfl rfl ?_
          refine L.nil ?_
          refine T.ret ?_
          exact G.ret (res1 Tryz.results15 rfl) ⟨rfl, congrArg aN (by simp_all [needR])⟩
    · skip
      refine T.rg ?_
      refine L.eqS rfl rfl rfl ?_
      refine L.as rfl rfl ?_
      refine L.nil ?_
      refine T.cond rfl (fun h4 => ?_) (fun h4 => ?_)
      · skip
        refine T.skip ?_
        refine T.go (fun _ _ h => h) ?_
        refine T.cond rfl (fun h4 => ?_) (fun h4 => ?_)
        · skip
          refine T.rg ?_
          refine L.as rfl rfl ?_
          refine L.nil ?_
          refine T.ret ?_
          exact G.ret (res1 Tryz.results15 rfl) ⟨rfl, congrArg aN (by simp_all [needR])⟩
        · skip
          refine T.rg ?_
          refine L.eqS rfl rfl rfl ?_
          refine L.as rfl rfl ?_
          refine L.nil ?_
          refine T.cond rfl (fun h9 => ?_) (fun h9 => ?_)
          · skip
            refine T.rg ?_
            refine L.as rfl rfl ?_
            refine L.nil ?_
            refine T.ret ?_
            exact G.ret (res1 Tryz.results15 rfl) ⟨rfl, congrArg aN (by simp_all [needR])⟩
          · skip
            refine T.skip ?_
            refine T.go (fun _ _ h => h) ?_
            refine T.rg ?_
            refine L.as rfl rfl ?_
            refine L.nil ?_
            refine T.ret ?_
            exact G.ret (res1 Tryz.results15 rfl) ⟨rfl, congrArg aN (by simp_all [needR])⟩
      · skip
        refine T.region ?_
        refine L.eqS rfl rfl rfl ?_
        refine L.as rfl rfl ?_
        refine L.last ?_
        refine T.go (fun _ _ h => h) ?_
        refine T.cond rfl (fun h4 => ?_) (fun h4 => ?_)
        · skip
          refine T.rg ?_
          refine L.as rfl rfl ?_
          refine L.nil ?_
          refine T.ret ?_
          exact G.ret (res1 Tryz.results15 rfl) ⟨rfl, congrArg aN (by simp_all [needR])⟩
        · skip
          refine T.rg ?_
          refine L.eqS rfl rfl rfl ?_
          refine L.as rfl rfl ?_
          refine L.nil ?_
          refine T.cond rfl (fun h9 => ?_) (fun h9 => ?_)
          · skip
            refine T.rg ?_
            refine L.as rfl rfl ?_
            refine L.nil ?_
            refine T.ret ?_
            exact G.ret (res1 Tryz.results15 rfl) ⟨rfl, congrArg aN (by simp_all [needR])⟩
          · skip
            refine T.skip ?_
            refine T.go (fun _ _ h => h) ?_
            refine T.rg ?_
            refine L.as rfl rfl ?_
            refine L.nil ?_
            refine T.ret ?_
            exact G.ret (res1 Tryz.results15 rfl) ⟨rfl, congrArg aN (by simp_all [needR])⟩

set_option maxHeartbeats 4000000 in
theorem f11  : Fc Tryz.prog 11 [] [] (Just (aL 1 (strs wordsL))) := by
  refine Fc.enter Tryz.func11 rfl Tryz.ntmps11 rfl fun X w => ?_
  refine T.rg ?_
  refine L.as rfl rfl ?_
  refine L.nil ?_
  refine T.rg ?_
  refine L.as rfl rfl ?_
  refine L.nil ?_
  refine T.of_seq ?_
  refine T.rg ?_
  refine L.call e19 rfl rfl f19 ?_
  rintro _ _ ⟨g, rfl, rfl⟩
  refine L.rngM 0 Tryz.underlying58 rfl rfl rfl fun b4 => ?_
  refine L.nil ?_
  refine T.block ?_
  refine T.conv (nil_row 9 1) ?_
  refine T.loop (fun m σ Ω => ∃ (seen : List Nat) (v : Value), seen.Nodup ∧ (∀ k ∈ seen, k < 19) ∧ m = 19 - seen.length ∧ σ = [(4, aP b4 0), (1, aR v)] ∧ Ω = [.row v 9 1 (strs (seen.map fun k => ((formsL.map encF).getD k (ByteArray.empty, zeroF)).1)), itB b4 g (formsL.map encF).length seen, mapB g (formsL.map encF)]) (19) _ (⟨[], nilV, List.nodup_nil, by simp, rfl, rfl, rfl⟩) (by repeat constructor) ?_
  rintro m σ Ω ⟨seen, v, hn, hb, rfl, rfl, rfl⟩
  have hsl := seen_len hn hb
  refine T.rg ?_
  refine L.nxtM 1 2 rfl rfl rfl (enc_ok _) rfl (fun hall => ?_) (fun k hk hnk Ω2 hΩ2 => ?_)
  · skip
    skip
    refine L.ex rfl rfl rfl ?_
    refine L.nil ?_
    refine T.of_seq ?_
    refine T.condF rfl ?_
    refine T.exit ?_
    refine T.go (fun _ _ h => h) ?_
    refine T.rg ?_
    refine L.mv rfl rfl ?_
    have h19 : seen.length = 19 := by
      have := (List.perm_ext_iff_of_nodup hn List.nodup_range).2 (fun k => ⟨fun h => List.mem_range.2 (hb k h), fun h => hall k (by rw [formsN]; exact List.mem_range.1 h)⟩) |>.length_eq
      simpa using this
    refine L.callO [] [_] [_, _] rfl e21 rfl rfl (f21 v _ (by simp; omega) (by simp; omega)) ?_
    rintro _ _ ⟨rfl, rfl⟩
    rw [sorted_words hn hb fun k hk => hall k (by rw [formsN]; exact hk)]
    refine L.nil ?_
    refine T.rg ?_
    refine L.mv rfl rfl ?_
    refine L.as rfl rfl ?_
    refine L.nil ?_
    refine T.ret ?_
    refine G.pub 0 0 rfl rfl rfl ?_
    exact G.retW (dropL [(0 : Nat), 0] rfl) (res1 Tryz.results11 rfl) ⟨rfl, rfl⟩
  · skip
    obtain rfl := Option.some.inj hΩ2
    have hk19 : k < 19 := by rw [formsN] at hk; exact hk
    have hn2 : (seen ++ [k]).Nodup := List.nodup_append.2 ⟨hn, by simp, fun a ha b hb => by rw [List.mem_singleton] at hb; subst hb; rintro rfl; exact hnk ha⟩
    have hb2 : ∀ x ∈ seen ++ [k], x < 19 := fun x hx => by
      rcases List.mem_append.1 hx with h | h
      · exact hb x h
      · rw [List.mem_singleton] at h; omega
    have hkey : ((formsL.map encF).getD k (ByteArray.empty, zeroF)).1 = (formsL.map encF)[k].1 := by rw [List.getD_eq_getElem?_getD, List.getElem?_eq_getElem hk]; rfl
    skip
    refine L.ex rfl rfl rfl ?_
    refine L.nil ?_
    refine T.of_seq ?_
    refine T.condT rfl ?_
    refine T.skip ?_
    refine T.go (fun _ _ h => h) ?_
    refine T.block ?_
    refine T.rg ?_
    refine L.entM 1 2 rfl rfl rfl hk (enc_ok _) rfl ?_
    refine L.ex rfl rfl rfl ?_
    refine L.as rfl rfl ?_
    refine L.nil ?_
    refine T.region ?_
    refine L.mv rfl rfl ?_
    refine L.mv rfl rfl ?_
    refine L.bsD rfl Tryz.underlying27 i9 rfl rfl rfl rfl rfl ?_
    refine L.app 0 Tryz.underlying27 i9 rfl rfl rfl rfl rfl (by simp [strs]; omega) (by simp [strs]; omega) rfl (fun _ => rfl) fun v12 => ?_
    refine L.as rfl rfl ?_
    refine L.last ?_
    refine G.round (19 - (seen ++ [k]).length) _ (by simp; have := seen_len hn2 hb2; simp at this; omega) ⟨seen ++ [k], v12, hn2, hb2, rfl, rfl, by rw [strs_key, hkey]; rfl⟩ (by repeat constructor)
end Go.Proofs.YtimimkdgofiloaaGreatDoor
