/- Maps as rising rows: put, made, asked. Printed by gen.py. -/
import Derived.Test.YtimimkdgofiloaaGreatDoorS11
namespace Go.Proofs.YtimimkdgofiloaaGreatDoor
open Go Go.Q
theorem dropAll {C : Ctx} : ∀ (Ω : List Ob), ∀ w, St C Ω w → St C [] w ∧ Step (owns Ω ++ C.X) (owns [] ++ C.X) w w
  | [], _, hs => ⟨hs, Step.refl _ _⟩
  | o :: Ω, w, hs => let ⟨h1, h2⟩ := St.drop (A := []) (o := o) (B := Ω) hs; let ⟨h3, h4⟩ := dropAll Ω w h1; ⟨h3, h2.trans h4⟩

theorem take_snoc' {α : Type} (l : List α) (k : Nat) (h : k < l.length) : l.take (k + 1) = l.take k ++ [l[k]] := by
  rw [List.take_add_one, List.getElem?_eq_getElem h]; rfl

theorem f124 (l : List (ByteArray × ByteArray)) (v : Value) (Ω : List Ob) (hM : MapO 166 2 (pv (.string) l) l.length v Ω) (hlen : l.length ≤ 1000) (p : ByteArray × ByteArray) (g2 i : Nat) (hi : i ≤ l.length) :
    Fc Tryz.prog 124 [R_ v, N_ (i : Int), R_ (slV g2 0 1 1)] ([rawB g2 166 [Value.string p.1, .string p.2]] ++ Ω) (fun x Ω2 => ∃ v2, x = aR v2 ∧ MapO 166 2 (pv (.string) (l.take i ++ p :: l.drop i)) (l.length + 1) v2 Ω2) := by
  rcases hM with ⟨rfl, h0, rfl⟩ | ⟨g, c, cur, rfl, hc1, hc2, hc3, hus, rfl⟩
  · have : l = [] := List.eq_nil_of_length_eq_zero h0
    subst this
    have : i = 0 := by simpa using hi
    subst this
    exact f124n p g2
  · exact f124r l p g2 g c cur hc1 hc2 hc3 hus hlen i hi

set_option maxHeartbeats 2000000 in
theorem f118 (l : List (ByteArray × ByteArray)) (v : Value) (Ω : List Ob) (hM : MapO 166 2 (pv (.string) l) l.length v Ω) (hsrt : Srt l) (hlen : l.length ≤ 1000) (p : ByteArray × ByteArray) : Fc Tryz.prog 118 [R_ v, .g [.d (.s p.1), .d (.s p.2)]] Ω (fun x Ω2 => ∃ v2, x = aR v2 ∧ MapO 166 2 (pv (.string) (putM l p)) (putM l p).length v2 Ω2) := by
  refine Fc.enter Tryz.func118 rfl Tryz.ntmps118 rfl fun X w => ?_
  refine T.rg ?_
  refine L.box rfl rfl fun b3 => ?_
  refine L.as rfl rfl ?_
  refine L.nil ?_
  refine T.rg ?_
  refine L.mv rfl rfl ?_
  refine L.fa Tryz.underlying166 rfl s9 rfl rfl ?_
  refine L.ld 0 o9 rfl rfl rfl rfl ?_
  refine L.callO [_] Ω [] (List.append_nil ([_] ++ Ω)).symm e123 rfl rfl (f123 l v Ω hM hsrt hlen p.1) ?_
  rintro _ Ω1 ⟨rfl, hΩ1⟩
  rw [List.append_nil, hΩ1]
  clear hΩ1 Ω1
  refine L.mv rfl rfl ?_
  refine L.ex rfl rfl rfl ?_
  refine L.ex rfl rfl rfl ?_
  refine L.as rfl rfl ?_
  refine L.as rfl rfl ?_
  refine L.nil ?_
  refine T.of_seq ?_
  refine T.rg ?_
  refine L.mv rfl rfl ?_
  refine L.nil ?_
  refine T.cond rfl (fun h14 => ?_) (fun h14 => ?_)
  · skip
    have his : isM l p.1 = true := h14
    have hpl : placeM l p.1 < l.length := by
      rcases Nat.lt_or_ge (placeM l p.1) l.length with h1 | h1
      · exact h1
      · rw [isM_end rfl h1] at his; cases his
    refine T.rg ?_
    refine L.mv rfl rfl ?_
    refine L.mv rfl rfl ?_
    refine L.ldg 0 a166 s166 rfl rfl rfl rfl rfl ?_
    obtain ⟨a0, c0, rfl⟩ := hM.form
    obtain ⟨g, cur, rfl, hc1, hc2, hc3, hus, rfl⟩ := hM.raw (by omega)
    have hcl := cur_len hus
    refine L.ixX (placeM l p.1) Tryz.underlying29 s166 rfl rfl rfl hpl rfl ?_
    rw [Nat.zero_add]
    refine L.stgX 1 (pv (.string) (l.set (placeM l p.1) p) ++ cur.drop (l.length * 2)) s166 rfl rfl rfl rfl rfl (by omega) (set_cells hus hpl) rfl ?_
    refine L.nil ?_
    refine T.rg ?_
    refine L.mv rfl rfl ?_
    refine L.as rfl rfl ?_
    refine L.nil ?_
    refine T.ret ?_
    refine G.conv (drop_at (i := 0) rfl rfl) ?_
    exact G.ret (res1 Tryz.results118 rfl) ⟨_, rfl, .inr ⟨g, c0, _, by rw [putM, if_pos his, List.length_set], by rw [putM, if_pos his, List.length_set]; exact hc1, hc2, by rw [List.length_append, pv_len, List.length_set, List.length_drop]; omega, by rw [putM, if_pos his, List.length_set]; exact set_take _ _ _ _ _, rfl⟩⟩
  · skip
    have his : ¬ isM l p.1 = true := by rw [h14]; decide
    refine T.skip ?_
    refine T.go (fun _ _ h => h) ?_
    refine T.rg ?_
    refine L.mv rfl rfl ?_
    refine L.mv rfl rfl ?_
    refine L.ldg 0 a166 s166 rfl rfl rfl rfl rfl ?_
    refine L.bsR rfl Tryz.underlying28 i166 rfl rfl rfl rfl rfl fun g2 => ?_
    refine L.conv (row_raw (es := [[.s p.1, .s p.2]]) (us := [Value.string p.1, .string p.2]) 0 rfl rfl rfl) ?_
    refine L.conv (drop_at (i := 1) rfl rfl) ?_
    refine L.callO [] ([_] ++ Ω) [] (List.append_nil ([] ++ ([_] ++ Ω))).symm e124 rfl rfl (f124 l v Ω hM hlen p g2 (placeM l p.1) (placeM_le l p.1)) ?_
    rintro _ Ω2 ⟨v2, rfl, hM2⟩
    rw [List.nil_append, List.append_nil]
    refine L.as rfl rfl ?_
    refine L.nil ?_
    refine T.ret ?_
    exact G.ret (res1 Tryz.results118 rfl) ⟨v2, rfl, by rw [putM, if_neg his]; simp only [List.length_append, List.length_cons, List.length_take, List.length_drop]; rw [show min (placeM l p.1) l.length + (l.length - placeM l p.1 + 1) = l.length + 1 by have := placeM_le l p.1; omega]; exact hM2⟩

theorem f126 (l : List (ByteArray × Int)) (v : Value) (Ω : List Ob) (hM : MapO 170 2 (pv (.int .i64) l) l.length v Ω) (hlen : l.length ≤ 1000) (p : ByteArray × Int) (g2 i : Nat) (hi : i ≤ l.length) :
    Fc Tryz.prog 126 [R_ v, N_ (i : Int), R_ (slV g2 0 1 1)] ([rawB g2 170 [Value.string p.1, .int .i64 p.2]] ++ Ω) (fun x Ω2 => ∃ v2, x = aR v2 ∧ MapO 170 2 (pv (.int .i64) (l.take i ++ p :: l.drop i)) (l.length + 1) v2 Ω2) := by
  rcases hM with ⟨rfl, h0, rfl⟩ | ⟨g, c, cur, rfl, hc1, hc2, hc3, hus, rfl⟩
  · have : l = [] := List.eq_nil_of_length_eq_zero h0
    subst this
    have : i = 0 := by simpa using hi
    subst this
    exact f126n p g2
  · exact f126r l p g2 g c cur hc1 hc2 hc3 hus hlen i hi

set_option maxHeartbeats 2000000 in
theorem f120 (l : List (ByteArray × Int)) (v : Value) (Ω : List Ob) (hM : MapO 170 2 (pv (.int .i64) l) l.length v Ω) (hsrt : Srt l) (hlen : l.length ≤ 1000) (p : ByteArray × Int) : Fc Tryz.prog 120 [R_ v, .g [.d (.s p.1), .d (.i .i64 p.2)]] Ω (fun x Ω2 => ∃ v2, x = aR v2 ∧ MapO 170 2 (pv (.int .i64) (putM l p)) (putM l p).length v2 Ω2) := by
  refine Fc.enter Tryz.func120 rfl Tryz.ntmps120 rfl fun X w => ?_
  refine T.rg ?_
  refine L.box rfl rfl fun b3 => ?_
  refine L.as rfl rfl ?_
  refine L.nil ?_
  refine T.rg ?_
  refine L.mv rfl rfl ?_
  refine L.fa Tryz.underlying170 rfl s9 rfl rfl ?_
  refine L.ld 0 o9 rfl rfl rfl rfl ?_
  refine L.callO [_] Ω [] (List.append_nil ([_] ++ Ω)).symm e125 rfl rfl (f125 l v Ω hM hsrt hlen p.1) ?_
  rintro _ Ω1 ⟨rfl, hΩ1⟩
  rw [List.append_nil, hΩ1]
  clear hΩ1 Ω1
  refine L.mv rfl rfl ?_
  refine L.ex rfl rfl rfl ?_
  refine L.ex rfl rfl rfl ?_
  refine L.as rfl rfl ?_
  refine L.as rfl rfl ?_
  refine L.nil ?_
  refine T.of_seq ?_
  refine T.rg ?_
  refine L.mv rfl rfl ?_
  refine L.nil ?_
  refine T.cond rfl (fun h14 => ?_) (fun h14 => ?_)
  · skip
    have his : isM l p.1 = true := h14
    have hpl : placeM l p.1 < l.length := by
      rcases Nat.lt_or_ge (placeM l p.1) l.length with h1 | h1
      · exact h1
      · rw [isM_end rfl h1] at his; cases his
    refine T.rg ?_
    refine L.mv rfl rfl ?_
    refine L.mv rfl rfl ?_
    refine L.ldg 0 a170 s170 rfl rfl rfl rfl rfl ?_
    obtain ⟨a0, c0, rfl⟩ := hM.form
    obtain ⟨g, cur, rfl, hc1, hc2, hc3, hus, rfl⟩ := hM.raw (by omega)
    have hcl := cur_len hus
    refine L.ixX (placeM l p.1) Tryz.underlying31 s170 rfl rfl rfl hpl rfl ?_
    rw [Nat.zero_add]
    refine L.stgX 1 (pv (.int .i64) (l.set (placeM l p.1) p) ++ cur.drop (l.length * 2)) s170 rfl rfl rfl rfl rfl (by omega) (set_cells hus hpl) rfl ?_
    refine L.nil ?_
    refine T.rg ?_
    refine L.mv rfl rfl ?_
    refine L.as rfl rfl ?_
    refine L.nil ?_
    refine T.ret ?_
    refine G.conv (drop_at (i := 0) rfl rfl) ?_
    exact G.ret (res1 Tryz.results120 rfl) ⟨_, rfl, .inr ⟨g, c0, _, by rw [putM, if_pos his, List.length_set], by rw [putM, if_pos his, List.length_set]; exact hc1, hc2, by rw [List.length_append, pv_len, List.length_set, List.length_drop]; omega, by rw [putM, if_pos his, List.length_set]; exact set_take _ _ _ _ _, rfl⟩⟩
  · skip
    have his : ¬ isM l p.1 = true := by rw [h14]; decide
    refine T.skip ?_
    refine T.go (fun _ _ h => h) ?_
    refine T.rg ?_
    refine L.mv rfl rfl ?_
    refine L.mv rfl rfl ?_
    refine L.ldg 0 a170 s170 rfl rfl rfl rfl rfl ?_
    refine L.bsR rfl Tryz.underlying30 i170 rfl rfl rfl rfl rfl fun g2 => ?_
    refine L.conv (row_raw (es := [[.s p.1, .i .i64 p.2]]) (us := [Value.string p.1, .int .i64 p.2]) 0 rfl rfl rfl) ?_
    refine L.conv (drop_at (i := 1) rfl rfl) ?_
    refine L.callO [] ([_] ++ Ω) [] (List.append_nil ([] ++ ([_] ++ Ω))).symm e126 rfl rfl (f126 l v Ω hM hlen p g2 (placeM l p.1) (placeM_le l p.1)) ?_
    rintro _ Ω2 ⟨v2, rfl, hM2⟩
    rw [List.nil_append, List.append_nil]
    refine L.as rfl rfl ?_
    refine L.nil ?_
    refine T.ret ?_
    exact G.ret (res1 Tryz.results120 rfl) ⟨v2, rfl, by rw [putM, if_neg his]; simp only [List.length_append, List.length_cons, List.length_take, List.length_drop]; rw [show min (placeM l p.1) l.length + (l.length - placeM l p.1 + 1) = l.length + 1 by have := placeM_le l p.1; omega]; exact hM2⟩

set_option maxHeartbeats 2000000 in
theorem f117 (l : List (ByteArray × ByteArray)) (hlen : l.length ≤ 1000) : Fc Tryz.prog 117 [L_ 2 (ats l)] [] (fun x Ω2 => ∃ v, x = aR v ∧ MapO 166 2 (pv (.string) (ofM l)) (ofM l).length v Ω2) := by
  refine Fc.enter Tryz.func117 rfl Tryz.ntmps117 rfl fun X w => ?_
  refine T.rg ?_
  refine L.as rfl rfl ?_
  refine L.nil ?_
  refine T.rg ?_
  refine L.as rfl rfl ?_
  refine L.nil ?_
  refine T.of_seq ?_
  refine T.rg ?_
  refine L.mv rfl rfl ?_
  refine L.lenL Tryz.underlying28 rfl rfl fun hl7 => ?_
  refine L.mv rfl rfl ?_
  refine L.nil ?_
  refine T.block ?_
  refine T.loop (fun m σ Ω2 => ∃ (k : Nat) (v : Value), k ≤ l.length ∧ m = l.length - k ∧ MapO 166 2 (pv (.string) ((l.take k).foldl putM [])) ((l.take k).foldl putM []).length v Ω2 ∧ σ = [(8, aN k), (7, aN (ats l).length), (6, aL 2 (ats l)), (3, aR v)]) (l.length) _ (⟨0, _, Nat.zero_le _, by omega, .inl ⟨rfl, rfl, rfl⟩, rfl⟩) (by repeat constructor) ?_
  rintro m σ Ω ⟨k, v, hk, rfl, hM, rfl⟩
  have hll := ats_len l
  refine T.rg ?_
  refine L.cmp rfl rfl rfl rfl ?_
  refine L.nil ?_
  refine T.of_seq ?_
  refine T.cond rfl (fun h9 => ?_) (fun h9 => ?_)
  · skip
    have hlt : k < l.length := by simpa using h9
    refine T.skip ?_
    refine T.go (fun _ _ h => h) ?_
    refine T.of_seq ?_
    refine T.block ?_
    refine T.rg ?_
    refine L.ixL k _ Tryz.underlying28 s166 rfl rfl rfl (ats_get hlt) rfl ?_
    refine L.lig a166 s166 rfl rfl rfl rfl ?_
    refine L.alloc z166 rfl rfl fun b5 => ?_
    refine L.stog 0 s166 rfl rfl rfl rfl rfl rfl ?_
    refine L.nil ?_
    refine T.region ?_
    refine L.mv rfl rfl ?_
    refine L.ldg 0 a166 s166 rfl rfl rfl rfl rfl ?_
    have hfl := foldl_len (l.take k) []
    have hsr : Srt ((l.take k).foldl putM []) := ofM_srt (l.take k)
    refine L.conv (drop_at (i := 0) rfl rfl) ?_
    refine L.callO [] _ [] (List.append_nil ([] ++ _)).symm e118 rfl rfl (f118 ((l.take k).foldl putM []) v _ hM hsr (by rw [List.length_take] at hfl; simp at hfl; omega) l[k]) ?_
    rintro _ Ω2 ⟨v2, rfl, hM2⟩
    rw [List.nil_append, List.append_nil]
    refine L.as rfl rfl ?_
    refine L.last ?_
    refine T.go (fun _ _ h => h) ?_
    refine T.region ?_
    refine L.ar ((k + 1 : Nat) : Int) rfl rfl rfl (by omega) rfl ?_
    refine L.mv rfl rfl ?_
    refine L.last ?_
    refine G.round (l.length - (k + 1)) _ (by omega) ⟨k + 1, v2, by omega, rfl, ?_, rfl⟩ (by repeat constructor)
    rw [take_snoc' l k hlt, List.foldl_append]
    exact hM2
  · skip
    have hge : l.length ≤ k := by simpa using h9
    refine T.exit ?_
    refine T.go (fun _ _ h => h) ?_
    refine T.rg ?_
    refine L.mv rfl rfl ?_
    refine L.as rfl rfl ?_
    refine L.nil ?_
    refine T.ret ?_
    exact G.ret (res1 Tryz.results117 rfl) ⟨_, rfl, by rw [List.take_of_length_le hge] at hM; exact hM⟩

set_option maxHeartbeats 2000000 in
theorem f119 (l : List (ByteArray × Int)) (hlen : l.length ≤ 1000) : Fc Tryz.prog 119 [L_ 2 (prs l)] [] (fun x Ω2 => ∃ v, x = aR v ∧ MapO 170 2 (pv (.int .i64) (ofM l)) (ofM l).length v Ω2) := by
  refine Fc.enter Tryz.func119 rfl Tryz.ntmps119 rfl fun X w => ?_
  refine T.rg ?_
  refine L.as rfl rfl ?_
  refine L.nil ?_
  refine T.rg ?_
  refine L.as rfl rfl ?_
  refine L.nil ?_
  refine T.of_seq ?_
  refine T.rg ?_
  refine L.mv rfl rfl ?_
  refine L.lenL Tryz.underlying30 rfl rfl fun hl7 => ?_
  refine L.mv rfl rfl ?_
  refine L.nil ?_
  refine T.block ?_
  refine T.loop (fun m σ Ω2 => ∃ (k : Nat) (v : Value), k ≤ l.length ∧ m = l.length - k ∧ MapO 170 2 (pv (.int .i64) ((l.take k).foldl putM [])) ((l.take k).foldl putM []).length v Ω2 ∧ σ = [(8, aN k), (7, aN (prs l).length), (6, aL 2 (prs l)), (3, aR v)]) (l.length) _ (⟨0, _, Nat.zero_le _, by omega, .inl ⟨rfl, rfl, rfl⟩, rfl⟩) (by repeat constructor) ?_
  rintro m σ Ω ⟨k, v, hk, rfl, hM, rfl⟩
  have hll := prs_len l
  refine T.rg ?_
  refine L.cmp rfl rfl rfl rfl ?_
  refine L.nil ?_
  refine T.of_seq ?_
  refine T.cond rfl (fun h9 => ?_) (fun h9 => ?_)
  · skip
    have hlt : k < l.length := by simpa using h9
    refine T.skip ?_
    refine T.go (fun _ _ h => h) ?_
    refine T.of_seq ?_
    refine T.block ?_
    refine T.rg ?_
    refine L.ixL k _ Tryz.underlying30 s170 rfl rfl rfl (prs_get hlt) rfl ?_
    refine L.lig a170 s170 rfl rfl rfl rfl ?_
    refine L.alloc z170 rfl rfl fun b5 => ?_
    refine L.stog 0 s170 rfl rfl rfl rfl rfl rfl ?_
    refine L.nil ?_
    refine T.region ?_
    refine L.mv rfl rfl ?_
    refine L.ldg 0 a170 s170 rfl rfl rfl rfl rfl ?_
    have hfl := foldl_len (l.take k) []
    have hsr : Srt ((l.take k).foldl putM []) := ofM_srt (l.take k)
    refine L.conv (drop_at (i := 0) rfl rfl) ?_
    refine L.callO [] _ [] (List.append_nil ([] ++ _)).symm e120 rfl rfl (f120 ((l.take k).foldl putM []) v _ hM hsr (by rw [List.length_take] at hfl; simp at hfl; omega) l[k]) ?_
    rintro _ Ω2 ⟨v2, rfl, hM2⟩
    rw [List.nil_append, List.append_nil]
    refine L.as rfl rfl ?_
    refine L.last ?_
    refine T.go (fun _ _ h => h) ?_
    refine T.region ?_
    refine L.ar ((k + 1 : Nat) : Int) rfl rfl rfl (by omega) rfl ?_
    refine L.mv rfl rfl ?_
    refine L.last ?_
    refine G.round (l.length - (k + 1)) _ (by omega) ⟨k + 1, v2, by omega, rfl, ?_, rfl⟩ (by repeat constructor)
    rw [take_snoc' l k hlt, List.foldl_append]
    exact hM2
  · skip
    have hge : l.length ≤ k := by simpa using h9
    refine T.exit ?_
    refine T.go (fun _ _ h => h) ?_
    refine T.rg ?_
    refine L.mv rfl rfl ?_
    refine L.as rfl rfl ?_
    refine L.nil ?_
    refine T.ret ?_
    exact G.ret (res1 Tryz.results119 rfl) ⟨_, rfl, by rw [List.take_of_length_le hge] at hM; exact hM⟩

set_option maxHeartbeats 2000000 in
theorem f107 (l : List (ByteArray × ByteArray)) (hlen : l.length ≤ 900) (a b : ByteArray) : Fc Tryz.prog 107 [L_ 2 (ats l), S_ a, S_ b] [] (fun x Ω2 => ∃ v2, x = aR v2 ∧ MapO 166 2 (pv .string (putM (ofM l) (a, b))) (putM (ofM l) (a, b)).length v2 Ω2) := by
  refine Fc.enter Tryz.func107 rfl Tryz.ntmps107 rfl fun X w => ?_
  refine T.rg ?_
  refine L.as rfl rfl ?_
  refine L.nil ?_
  refine T.rg ?_
  refine L.mv rfl rfl ?_
  have hol := ofM_len l
  refine L.call e117 rfl rfl (f117 l (by omega)) ?_
  rintro _ Ω1 ⟨v, rfl, hM⟩
  rw [List.append_nil]
  refine L.mv rfl rfl ?_
  refine L.mv rfl rfl ?_
  refine L.bld p166 z166 rfl rfl rfl rfl rfl ?_
  refine L.callO [] Ω1 [] (List.append_nil ([] ++ Ω1)).symm e118 rfl rfl (f118 (ofM l) v Ω1 hM (ofM_srt l) (by omega) (a, b)) ?_
  rintro _ Ω2 ⟨v2, rfl, hM2⟩
  rw [List.nil_append, List.append_nil]
  refine L.as rfl rfl ?_
  refine L.nil ?_
  refine T.ret ?_
  exact G.ret (res1 Tryz.results107 rfl) ⟨v2, rfl, hM2⟩
end Go.Proofs.YtimimkdgofiloaaGreatDoor
