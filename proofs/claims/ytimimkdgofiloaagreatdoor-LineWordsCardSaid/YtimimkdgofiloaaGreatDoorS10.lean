/- Maps as rising rows: searched. Printed by gen.py. -/
import Derived.Test.YtimimkdgofiloaaGreatDoorTy
import Derived.Test.YtimimkdgofiloaaGreatDoorDe
namespace Go.Proofs.YtimimkdgofiloaaGreatDoor
open Go Go.Q
set_option maxHeartbeats 400000 in
theorem f84 (s : ByteArray) : Fc Tryz.prog 84 [S_ s] [] (Just (aB false)) := by
  refine Fc.enter Tryz.func84 rfl Tryz.ntmps84 rfl fun X w => ?_
  refine T.rg ?_
  refine L.as rfl rfl ?_
  refine L.nil ?_
  refine T.rg ?_
  refine L.mv rfl rfl ?_
  refine L.mv rfl rfl ?_
  refine L.neS rfl rfl rfl ?_
  refine L.as rfl rfl ?_
  refine L.nil ?_
  refine T.ret ?_
  exact G.ret (res1 Tryz.results84 rfl) ⟨rfl, congrArg aB (by simp)⟩

set_option maxHeartbeats 400000 in
theorem f129 (a b : ByteArray) : Fc Tryz.prog 129 [S_ a, S_ b] [] (Just (aN (cmpS a b))) := by
  refine Fc.enter Tryz.func129 rfl Tryz.ntmps129 rfl fun X w => ?_
  refine T.rg ?_
  refine L.as rfl rfl ?_
  refine L.nil ?_
  refine T.rg ?_
  refine L.mv rfl rfl ?_
  refine L.call e84 rfl rfl (f84 _) ?_
  rintro _ _ ⟨rfl, rfl⟩
  refine L.as rfl rfl ?_
  refine L.nil ?_
  refine T.rg ?_
  refine L.mv rfl rfl ?_
  refine L.call e84 rfl rfl (f84 _) ?_
  rintro _ _ ⟨rfl, rfl⟩
  refine L.as rfl rfl ?_
  refine L.nil ?_
  refine T.of_seq ?_
  refine T.rg ?_
  refine L.mv rfl rfl ?_
  refine L.nil ?_
  refine T.cond rfl (fun h11 => ?_) (fun h11 => ?_)
  · skip
    cases h11
  · skip
    refine T.skip ?_
    refine T.go (fun _ _ h => h) ?_
    refine T.of_seq ?_
    refine T.rg ?_
    refine L.mv rfl rfl ?_
    refine L.nil ?_
    refine T.cond rfl (fun h13 => ?_) (fun h13 => ?_)
    · skip
      cases h13
    · skip
      refine T.skip ?_
      refine T.go (fun _ _ h => h) ?_
      refine T.of_seq ?_
      refine T.rg ?_
      refine L.mv rfl rfl ?_
      refine L.mv rfl rfl ?_
      refine L.ltS rfl rfl rfl ?_
      refine L.nil ?_
      refine T.cond rfl (fun h16 => ?_) (fun h16 => ?_)
      · skip
        have h1 : lt a b = true := h16
        refine T.rg ?_
        refine L.as rfl rfl ?_
        refine L.nil ?_
        refine T.ret ?_
        exact G.ret (res1 Tryz.results129 rfl) ⟨rfl, congrArg aN (by simp [cmpS, h1])⟩
      · skip
        have h1 : lt a b = false := h16
        refine T.skip ?_
        refine T.go (fun _ _ h => h) ?_
        refine T.of_seq ?_
        refine T.rg ?_
        refine L.mv rfl rfl ?_
        refine L.mv rfl rfl ?_
        refine L.gtS rfl rfl rfl ?_
        refine L.nil ?_
        refine T.cond rfl (fun h19 => ?_) (fun h19 => ?_)
        · skip
          have h2 : ¬ a = b := by intro e; rw [e] at h19; simp at h19
          refine T.rg ?_
          refine L.as rfl rfl ?_
          refine L.nil ?_
          refine T.ret ?_
          exact G.ret (res1 Tryz.results129 rfl) ⟨rfl, congrArg aN (by simp [cmpS, h1, h2])⟩
        · skip
          have h2 : a = b := by
            simp only [Bool.not_eq_false', Bool.or_eq_true, decide_eq_true_eq] at h19
            exact h19.resolve_left (fun h => by have : lt a b = true := h; rw [h1] at this; cases this)
          refine T.skip ?_
          refine T.go (fun _ _ h => h) ?_
          refine T.rg ?_
          refine L.as rfl rfl ?_
          refine L.nil ?_
          refine T.ret ?_
          exact G.ret (res1 Tryz.results129 rfl) ⟨rfl, congrArg aN (by simp [cmpS, h2, lt_irr])⟩

set_option maxHeartbeats 400000 in
theorem f128 (a : ByteArray) (v : ByteArray) (n : ByteArray) : Fc Tryz.prog 128 [.g [.d (.s a), .d (.s v)], S_ n] [] (Just (aN (cmpS a n))) := by
  refine Fc.enter Tryz.func128 rfl Tryz.ntmps128 rfl fun X w => ?_
  refine T.rg ?_
  refine L.box rfl rfl fun b2 => ?_
  refine L.as rfl rfl ?_
  refine L.nil ?_
  refine T.rg ?_
  refine L.fa Tryz.underlying166 rfl s9 rfl rfl ?_
  refine L.ld 0 o9 rfl rfl rfl rfl ?_
  refine L.mv rfl rfl ?_
  refine L.call e129 rfl rfl (f129 a n) ?_
  rintro _ _ ⟨rfl, rfl⟩
  refine L.as rfl rfl ?_
  refine L.nil ?_
  refine T.ret ?_
  refine G.conv (drop_at (i := 0) rfl rfl) ?_
  exact G.ret (res1 Tryz.results128 rfl) ⟨rfl, rfl⟩

set_option maxHeartbeats 1000000 in
theorem f127 (l : List (ByteArray × ByteArray)) (v : Value) (Ω : List Ob) (hM : MapO 166 2 (pv .string l) l.length v Ω) (hsrt : Srt l) (hlen : l.length ≤ 1000) (n : ByteArray) : Fc Tryz.prog 127 [R_ v, S_ n, R_ (.func (.func 128) #[] #[])] Ω (fun x Ω2 => x = .t [N_ (placeM l n : Nat), Bo (isM l n)] ∧ Ω2 = Ω) := by
  obtain ⟨a0, c0, rfl⟩ := hM.form
  refine Fc.enter Tryz.func127 rfl Tryz.ntmps127 rfl fun X w => ?_
  refine T.rg ?_
  refine L.as rfl rfl ?_
  refine L.as rfl rfl ?_
  refine L.nil ?_
  refine T.rg ?_
  refine L.mv rfl rfl ?_
  refine L.lenX Tryz.underlying29 rfl rfl ?_
  refine L.as rfl rfl ?_
  refine L.nil ?_
  refine T.rg ?_
  refine L.mv rfl rfl ?_
  refine L.as rfl rfl ?_
  refine L.as rfl rfl ?_
  refine L.nil ?_
  refine T.of_seq ?_
  refine T.block ?_
  refine T.loop (fun m σ Ω2 => ∃ i j : Nat, Between l n i j ∧ m = j - i ∧ σ = [(10, aN j), (9, aN i), (8, aN l.length), (2, aR (.func (.func 128) #[] #[])), (1, aS n), (0, aR (.slice a0 l.length c0))] ∧ Ω2 = Ω) (l.length) _ (⟨0, l.length, Between.start l n, rfl, rfl, rfl⟩) (by repeat constructor) ?_
  rintro m σ Ω ⟨i, j, hb, rfl, rfl, rfl⟩
  have hij := hb.1
  have hjl := hb.2.1
  refine T.of_seq ?_
  refine T.rg ?_
  refine L.mv rfl rfl ?_
  refine L.mv rfl rfl ?_
  refine L.cmp rfl rfl rfl rfl ?_
  refine L.nil ?_
  refine T.cond rfl (fun h17 => ?_) (fun h17 => ?_)
  · skip
    have hlt : i < j := by simpa using h17
    have hh : (i + j) / 2 < l.length := by omega
    refine T.skip ?_
    refine T.go (fun _ _ h => h) ?_
    refine T.block ?_
    refine T.rg ?_
    refine L.mv rfl rfl ?_
    refine L.mv rfl rfl ?_
    refine L.ar ((i + j : Nat) : Int) rfl rfl rfl (by omega) rfl ?_
    refine L.cvI ((i + j : Nat) : Int) (by rw [Tryz.underlying3]; rfl) Tryz.underlying78 rfl (by rw [IntKind.wrap_u64]; omega) rfl ?_
    refine L.shr 1 (((i + j) / 2 : Nat) : Int) rfl rfl (by omega) (by omega) rfl ?_
    refine L.cvI (((i + j) / 2 : Nat) : Int) (by rw [Tryz.underlying78]; rfl) Tryz.underlying3 rfl (by rw [IntKind.wrap_i64]; omega) rfl ?_
    refine L.as rfl rfl ?_
    refine L.nil ?_
    refine T.rg ?_
    refine L.mv rfl rfl ?_
    refine L.mv rfl rfl ?_
    refine L.mv rfl rfl ?_
    obtain ⟨g, cur, rfl, hc1, hc2, hc3, hus, rfl⟩ := hM.raw (by omega)
    refine L.ixX ((i + j) / 2) Tryz.underlying29 s166 rfl rfl rfl hh rfl ?_
    rw [Nat.zero_add]
    refine L.ldgX 0 a166 s166 rfl rfl (cur_at hus hh) rfl rfl rfl ?_
    refine L.mv rfl rfl ?_
    refine L.callV [] [] [_] rfl rfl e128 rfl rfl rfl (f128 l[(i + j) / 2].1 l[(i + j) / 2].2 n) ?_
    rintro _ _ ⟨rfl, rfl⟩
    refine L.cmp rfl rfl rfl rfl ?_
    refine L.nil ?_
    refine T.cond rfl (fun h31 => ?_) (fun h31 => ?_)
    · skip
      refine T.region ?_
      refine L.mv rfl rfl ?_
      refine L.ar (((i + j) / 2 + 1 : Nat) : Int) rfl rfl rfl (by omega) rfl ?_
      refine L.as rfl rfl ?_
      refine L.last ?_
      refine G.round (j - ((i + j) / 2 + 1)) _ (by omega) ⟨(i + j) / 2 + 1, j, hb.up hsrt hh (by omega) (by rw [← cmpS_neg]; exact h31), rfl, rfl, rfl⟩ (by repeat constructor)
    · skip
      refine T.region ?_
      refine L.mv rfl rfl ?_
      refine L.as rfl rfl ?_
      refine L.last ?_
      refine G.round ((i + j) / 2 - i) _ (by omega) ⟨i, (i + j) / 2, hb.down hsrt hh (by omega) (by rw [← cmpS_neg]; exact h31), rfl, rfl, rfl⟩ (by repeat constructor)
  · skip
    obtain rfl : i = j := by have : ¬ i < j := (by simpa using h17); omega
    have hp := hb.done
    refine T.exit ?_
    refine T.go (fun _ _ h => h) ?_
    refine T.rg ?_
    refine L.mv rfl rfl ?_
    refine L.mv rfl rfl ?_
    refine L.mv rfl rfl ?_
    refine L.cmp rfl rfl rfl rfl ?_
    refine L.mv rfl rfl ?_
    refine L.caseB 39 rfl (fun h39 => ?_) (fun h39 => ?_)
    · skip
      have hlt : i < l.length := by simpa using h39
      refine L.on rfl rfl ?_
      refine L.mv rfl rfl ?_
      refine L.on rfl rfl ?_
      refine L.mv rfl rfl ?_
      refine L.on rfl rfl ?_
      refine L.mv rfl rfl ?_
      refine L.on rfl rfl ?_
      obtain ⟨g, cur, rfl, hc1, hc2, hc3, hus, rfl⟩ := hM.raw (by omega)
      refine L.ixX i Tryz.underlying29 s166 rfl rfl rfl hlt rfl ?_
      rw [Nat.zero_add]
      refine L.on rfl rfl ?_
      refine L.ldgX 0 a166 s166 rfl rfl (cur_at hus hlt) rfl rfl rfl ?_
      refine L.on rfl rfl ?_
      refine L.mv rfl rfl ?_
      refine L.on rfl rfl ?_
      refine L.callV [] [] [_] rfl rfl e128 rfl rfl rfl (f128 l[i].1 l[i].2 n) ?_
      rintro _ _ ⟨rfl, rfl⟩
      refine L.on rfl rfl ?_
      refine L.cmp rfl rfl rfl rfl ?_
      refine L.pkT rfl rfl rfl ?_
      refine L.as rfl rfl ?_
      refine L.as rfl rfl ?_
      refine L.nil ?_
      refine T.ret ?_
      exact G.ret (res2 Tryz.results127 rfl rfl) ⟨by rw [hp, isM_at hp hlt, ← cmpS_zero], rfl⟩
    · skip
      have hge : l.length ≤ i := by simpa using h39
      refine L.off rfl rfl rfl rfl ?_
      refine L.off rfl rfl rfl rfl ?_
      refine L.off rfl rfl rfl rfl ?_
      refine L.off rfl rfl rfl rfl ?_
      refine L.off rfl rfl rfl rfl ?_
      refine L.off rfl rfl rfl rfl ?_
      refine L.off rfl rfl rfl rfl ?_
      refine L.off rfl rfl rfl rfl ?_
      refine L.pkF rfl rfl rfl ?_
      refine L.as rfl rfl ?_
      refine L.as rfl rfl ?_
      refine L.nil ?_
      refine T.ret ?_
      exact G.ret (res2 Tryz.results127 rfl rfl) ⟨by rw [hp, isM_end hp hge]; rfl, rfl⟩

set_option maxHeartbeats 400000 in
theorem f123 (l : List (ByteArray × ByteArray)) (v : Value) (Ω : List Ob) (hM : MapO 166 2 (pv .string l) l.length v Ω) (hsrt : Srt l) (hlen : l.length ≤ 1000) (n : ByteArray) : Fc Tryz.prog 123 [R_ v, S_ n] Ω (fun x Ω2 => x = .t [N_ (placeM l n : Nat), Bo (isM l n)] ∧ Ω2 = Ω) := by
  refine Fc.enter Tryz.func123 rfl Tryz.ntmps123 rfl fun X w => ?_
  refine T.rg ?_
  refine L.as rfl rfl ?_
  refine L.as rfl rfl ?_
  refine L.nil ?_
  refine T.rg ?_
  refine L.mv rfl rfl ?_
  refine L.mv rfl rfl ?_
  refine L.callO [] Ω [] (by simp) e127 rfl rfl (f127 l v Ω hM hsrt hlen n) ?_
  rintro _ _ ⟨rfl, rfl⟩
  refine L.ex rfl rfl rfl ?_
  refine L.ex rfl rfl rfl ?_
  refine L.as rfl rfl ?_
  refine L.as rfl rfl ?_
  refine L.nil ?_
  refine T.ret ?_
  exact G.ret (res2 Tryz.results123 rfl rfl) ⟨rfl, by simp⟩

set_option maxHeartbeats 400000 in
theorem f133 (a : ByteArray) (v : Int) (n : ByteArray) : Fc Tryz.prog 133 [.g [.d (.s a), .d (.i .i64 v)], S_ n] [] (Just (aN (cmpS a n))) := by
  refine Fc.enter Tryz.func133 rfl Tryz.ntmps133 rfl fun X w => ?_
  refine T.rg ?_
  refine L.box rfl rfl fun b2 => ?_
  refine L.as rfl rfl ?_
  refine L.nil ?_
  refine T.rg ?_
  refine L.fa Tryz.underlying170 rfl s9 rfl rfl ?_
  refine L.ld 0 o9 rfl rfl rfl rfl ?_
  refine L.mv rfl rfl ?_
  refine L.call e129 rfl rfl (f129 a n) ?_
  rintro _ _ ⟨rfl, rfl⟩
  refine L.as rfl rfl ?_
  refine L.nil ?_
  refine T.ret ?_
  refine G.conv (drop_at (i := 0) rfl rfl) ?_
  exact G.ret (res1 Tryz.results133 rfl) ⟨rfl, rfl⟩

set_option maxHeartbeats 1000000 in
theorem f132 (l : List (ByteArray × Int)) (v : Value) (Ω : List Ob) (hM : MapO 170 2 (pv (.int .i64) l) l.length v Ω) (hsrt : Srt l) (hlen : l.length ≤ 1000) (n : ByteArray) : Fc Tryz.prog 132 [R_ v, S_ n, R_ (.func (.func 133) #[] #[])] Ω (fun x Ω2 => x = .t [N_ (placeM l n : Nat), Bo (isM l n)] ∧ Ω2 = Ω) := by
  obtain ⟨a0, c0, rfl⟩ := hM.form
  refine Fc.enter Tryz.func132 rfl Tryz.ntmps132 rfl fun X w => ?_
  refine T.rg ?_
  refine L.as rfl rfl ?_
  refine L.as rfl rfl ?_
  refine L.nil ?_
  refine T.rg ?_
  refine L.mv rfl rfl ?_
  refine L.lenX Tryz.underlying31 rfl rfl ?_
  refine L.as rfl rfl ?_
  refine L.nil ?_
  refine T.rg ?_
  refine L.mv rfl rfl ?_
  refine L.as rfl rfl ?_
  refine L.as rfl rfl ?_
  refine L.nil ?_
  refine T.of_seq ?_
  refine T.block ?_
  refine T.loop (fun m σ Ω2 => ∃ i j : Nat, Between l n i j ∧ m = j - i ∧ σ = [(10, aN j), (9, aN i), (8, aN l.length), (2, aR (.func (.func 133) #[] #[])), (1, aS n), (0, aR (.slice a0 l.length c0))] ∧ Ω2 = Ω) (l.length) _ (⟨0, l.length, Between.start l n, rfl, rfl, rfl⟩) (by repeat constructor) ?_
  rintro m σ Ω ⟨i, j, hb, rfl, rfl, rfl⟩
  have hij := hb.1
  have hjl := hb.2.1
  refine T.of_seq ?_
  refine T.rg ?_
  refine L.mv rfl rfl ?_
  refine L.mv rfl rfl ?_
  refine L.cmp rfl rfl rfl rfl ?_
  refine L.nil ?_
  refine T.cond rfl (fun h17 => ?_) (fun h17 => ?_)
  · skip
    have hlt : i < j := by simpa using h17
    have hh : (i + j) / 2 < l.length := by omega
    refine T.skip ?_
    refine T.go (fun _ _ h => h) ?_
    refine T.block ?_
    refine T.rg ?_
    refine L.mv rfl rfl ?_
    refine L.mv rfl rfl ?_
    refine L.ar ((i + j : Nat) : Int) rfl rfl rfl (by omega) rfl ?_
    refine L.cvI ((i + j : Nat) : Int) (by rw [Tryz.underlying3]; rfl) Tryz.underlying78 rfl (by rw [IntKind.wrap_u64]; omega) rfl ?_
    refine L.shr 1 (((i + j) / 2 : Nat) : Int) rfl rfl (by omega) (by omega) rfl ?_
    refine L.cvI (((i + j) / 2 : Nat) : Int) (by rw [Tryz.underlying78]; rfl) Tryz.underlying3 rfl (by rw [IntKind.wrap_i64]; omega) rfl ?_
    refine L.as rfl rfl ?_
    refine L.nil ?_
    refine T.rg ?_
    refine L.mv rfl rfl ?_
    refine L.mv rfl rfl ?_
    refine L.mv rfl rfl ?_
    obtain ⟨g, cur, rfl, hc1, hc2, hc3, hus, rfl⟩ := hM.raw (by omega)
    refine L.ixX ((i + j) / 2) Tryz.underlying31 s170 rfl rfl rfl hh rfl ?_
    rw [Nat.zero_add]
    refine L.ldgX 0 a170 s170 rfl rfl (cur_at hus hh) rfl rfl rfl ?_
    refine L.mv rfl rfl ?_
    refine L.callV [] [] [_] rfl rfl e133 rfl rfl rfl (f133 l[(i + j) / 2].1 l[(i + j) / 2].2 n) ?_
    rintro _ _ ⟨rfl, rfl⟩
    refine L.cmp rfl rfl rfl rfl ?_
    refine L.nil ?_
    refine T.cond rfl (fun h31 => ?_) (fun h31 => ?_)
    · skip
      refine T.region ?_
      refine L.mv rfl rfl ?_
      refine L.ar (((i + j) / 2 + 1 : Nat) : Int) rfl rfl rfl (by omega) rfl ?_
      refine L.as rfl rfl ?_
      refine L.last ?_
      refine G.round (j - ((i + j) / 2 + 1)) _ (by omega) ⟨(i + j) / 2 + 1, j, hb.up hsrt hh (by omega) (by rw [← cmpS_neg]; exact h31), rfl, rfl, rfl⟩ (by repeat constructor)
    · skip
      refine T.region ?_
      refine L.mv rfl rfl ?_
      refine L.as rfl rfl ?_
      refine L.last ?_
      refine G.round ((i + j) / 2 - i) _ (by omega) ⟨i, (i + j) / 2, hb.down hsrt hh (by omega) (by rw [← cmpS_neg]; exact h31), rfl, rfl, rfl⟩ (by repeat constructor)
  · skip
    obtain rfl : i = j := by have : ¬ i < j := (by simpa using h17); omega
    have hp := hb.done
    refine T.exit ?_
    refine T.go (fun _ _ h => h) ?_
    refine T.rg ?_
    refine L.mv rfl rfl ?_
    refine L.mv rfl rfl ?_
    refine L.mv rfl rfl ?_
    refine L.cmp rfl rfl rfl rfl ?_
    refine L.mv rfl rfl ?_
    refine L.caseB 39 rfl (fun h39 => ?_) (fun h39 => ?_)
    · skip
      have hlt : i < l.length := by simpa using h39
      refine L.on rfl rfl ?_
      refine L.mv rfl rfl ?_
      refine L.on rfl rfl ?_
      refine L.mv rfl rfl ?_
      refine L.on rfl rfl ?_
      refine L.mv rfl rfl ?_
      refine L.on rfl rfl ?_
      obtain ⟨g, cur, rfl, hc1, hc2, hc3, hus, rfl⟩ := hM.raw (by omega)
      refine L.ixX i Tryz.underlying31 s170 rfl rfl rfl hlt rfl ?_
      rw [Nat.zero_add]
      refine L.on rfl rfl ?_
      refine L.ldgX 0 a170 s170 rfl rfl (cur_at hus hlt) rfl rfl rfl ?_
      refine L.on rfl rfl ?_
      refine L.mv rfl rfl ?_
      refine L.on rfl rfl ?_
      refine L.callV [] [] [_] rfl rfl e133 rfl rfl rfl (f133 l[i].1 l[i].2 n) ?_
      rintro _ _ ⟨rfl, rfl⟩
      refine L.on rfl rfl ?_
      refine L.cmp rfl rfl rfl rfl ?_
      refine L.pkT rfl rfl rfl ?_
      refine L.as rfl rfl ?_
      refine L.as rfl rfl ?_
      refine L.nil ?_
      refine T.ret ?_
      exact G.ret (res2 Tryz.results132 rfl rfl) ⟨by rw [hp, isM_at hp hlt, ← cmpS_zero], rfl⟩
    · skip
      have hge : l.length ≤ i := by simpa using h39
      refine L.off rfl rfl rfl rfl ?_
      refine L.off rfl rfl rfl rfl ?_
      refine L.off rfl rfl rfl rfl ?_
      refine L.off rfl rfl rfl rfl ?_
      refine L.off rfl rfl rfl rfl ?_
      refine L.off rfl rfl rfl rfl ?_
      refine L.off rfl rfl rfl rfl ?_
      refine L.off rfl rfl rfl rfl ?_
      refine L.pkF rfl rfl rfl ?_
      refine L.as rfl rfl ?_
      refine L.as rfl rfl ?_
      refine L.nil ?_
      refine T.ret ?_
      exact G.ret (res2 Tryz.results132 rfl rfl) ⟨by rw [hp, isM_end hp hge]; rfl, rfl⟩

set_option maxHeartbeats 400000 in
theorem f125 (l : List (ByteArray × Int)) (v : Value) (Ω : List Ob) (hM : MapO 170 2 (pv (.int .i64) l) l.length v Ω) (hsrt : Srt l) (hlen : l.length ≤ 1000) (n : ByteArray) : Fc Tryz.prog 125 [R_ v, S_ n] Ω (fun x Ω2 => x = .t [N_ (placeM l n : Nat), Bo (isM l n)] ∧ Ω2 = Ω) := by
  refine Fc.enter Tryz.func125 rfl Tryz.ntmps125 rfl fun X w => ?_
  refine T.rg ?_
  refine L.as rfl rfl ?_
  refine L.as rfl rfl ?_
  refine L.nil ?_
  refine T.rg ?_
  refine L.mv rfl rfl ?_
  refine L.mv rfl rfl ?_
  refine L.callO [] Ω [] (by simp) e132 rfl rfl (f132 l v Ω hM hsrt hlen n) ?_
  rintro _ _ ⟨rfl, rfl⟩
  refine L.ex rfl rfl rfl ?_
  refine L.ex rfl rfl rfl ?_
  refine L.as rfl rfl ?_
  refine L.as rfl rfl ?_
  refine L.nil ?_
  refine T.ret ?_
  exact G.ret (res2 Tryz.results125 rfl rfl) ⟨rfl, by simp⟩
end Go.Proofs.YtimimkdgofiloaaGreatDoor
