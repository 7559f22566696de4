/- Maps as rising rows: searched. Printed by gen.py. -/
import Derived.Test.YtimimkdgofiloaaGreatTy
import Derived.Test.YtimimkdgofiloaaGreatDe
namespace Go.Proofs.YtimimkdgofiloaaGreat
open Go Go.Q
set_option maxHeartbeats 400000 in
theorem f93 (s : ByteArray) : Fc Tryz.prog 93 [S_ s] [] (Just (aB false)) := by
  refine Fc.enter Tryz.func93 rfl Tryz.ntmps93 rfl fun X w => ?_
  refine T.rg ?_
  refine L.as rfl rfl ?_
  refine L.nil ?_
  refine T.rg ?_
  refine L.mv rfl rfl ?_
  refine L.mv rfl rfl ?_
  refine L.neS rfl rfl rfl ?_
  refine L.as rfl rfl ?_
  refine L.nil ?_
  refine T.ret ?_
  exact G.ret (res1 Tryz.results93 rfl) ⟨rfl, congrArg aB (by simp)⟩

set_option maxHeartbeats 400000 in
theorem f74 (a b : ByteArray) : Fc Tryz.prog 74 [S_ a, S_ b] [] (Just (aN (cmpS a b))) := by
  refine Fc.enter Tryz.func74 rfl Tryz.ntmps74 rfl fun X w => ?_
  refine T.rg ?_
  refine L.as rfl rfl ?_
  refine L.nil ?_
  refine T.rg ?_
  refine L.mv rfl rfl ?_
  refine L.call e93 rfl rfl (f93 _) ?_
  rintro _ _ ⟨rfl, rfl⟩
  refine L.as rfl rfl ?_
  refine L.nil ?_
  refine T.rg ?_
  refine L.mv rfl rfl ?_
  refine L.call e93 rfl rfl (f93 _) ?_
  rintro _ _ ⟨rfl, rfl⟩
  refine L.as rfl rfl ?_
  refine L.nil ?_
  refine T.of_seq ?_
  refine T.rg ?_
  refine L.mv rfl rfl ?_
  refine L.nil ?_
  refine T.cond rfl (fun h11 => ?_) (fun h11 => ?_)
  · skip
    cases h11
  · skip
    refine T.skip ?_
    refine T.go (fun _ _ h => h) ?_
    refine T.of_seq ?_
    refine T.rg ?_
    refine L.mv rfl rfl ?_
    refine L.nil ?_
    refine T.cond rfl (fun h13 => ?_) (fun h13 => ?_)
    · skip
      cases h13
    · skip
      refine T.skip ?_
      refine T.go (fun _ _ h => h) ?_
      refine T.of_seq ?_
      refine T.rg ?_
      refine L.mv rfl rfl ?_
      refine L.mv rfl rfl ?_
      refine L.ltS rfl rfl rfl ?_
      refine L.nil ?_
      refine T.cond rfl (fun h16 => ?_) (fun h16 => ?_)
      · skip
        have h1 : lt a b = true := h16
        refine T.rg ?_
        refine L.as rfl rfl ?_
        refine L.nil ?_
        refine T.ret ?_
        exact G.ret (res1 Tryz.results74 rfl) ⟨rfl, congrArg aN (by simp [cmpS, h1])⟩
      · skip
        have h1 : lt a b = false := h16
        refine T.skip ?_
        refine T.go (fun _ _ h => h) ?_
        refine T.of_seq ?_
        refine T.rg ?_
        refine L.mv rfl rfl ?_
        refine L.mv rfl rfl ?_
        refine L.gtS rfl rfl rfl ?_
        refine L.nil ?_
        refine T.cond rfl (fun h19 => ?_) (fun h19 => ?_)
        · skip
          have h2 : ¬ a = b := by intro e; rw [e] at h19; simp at h19
          refine T.rg ?_
          refine L.as rfl rfl ?_
          refine L.nil ?_
          refine T.ret ?_
          exact G.ret (res1 Tryz.results74 rfl) ⟨rfl, congrArg aN (by simp [cmpS, h1, h2])⟩
        · skip
          have h2 : a = b := by
            simp only [Bool.not_eq_false', Bool.or_eq_true, decide_eq_true_eq] at h19
            exact h19.resolve_left (fun h => by have : lt a b = true := h; rw [h1] at this; cases this)
          refine T.skip ?_
          refine T.go (fun _ _ h => h) ?_
          refine T.rg ?_
          refine L.as rfl rfl ?_
          refine L.nil ?_
          refine T.ret ?_
          exact G.ret (res1 Tryz.results74 rfl) ⟨rfl, congrArg aN (by simp [cmpS, h2, lt_irr])⟩

set_option maxHeartbeats 400000 in
theorem f78 (a : ByteArray) (v : ByteArray) (n : ByteArray) : Fc Tryz.prog 78 [.g [.d (.s a), .d (.s v)], S_ n] [] (Just (aN (cmpS a n))) := by
  refine Fc.enter Tryz.func78 rfl Tryz.ntmps78 rfl fun X w => ?_
  refine T.rg ?_
  refine L.box rfl rfl fun b2 => ?_
  refine L.as rfl rfl ?_
  refine L.nil ?_
  refine T.rg ?_
  refine L.fa Tryz.underlying115 rfl s9 rfl rfl ?_
  refine L.ld 0 o9 rfl rfl rfl rfl ?_
  refine L.mv rfl rfl ?_
  refine L.call e74 rfl rfl (f74 a n) ?_
  rintro _ _ ⟨rfl, rfl⟩
  refine L.as rfl rfl ?_
  refine L.nil ?_
  refine T.ret ?_
  refine G.conv (drop_at (i := 0) rfl rfl) ?_
  exact G.ret (res1 Tryz.results78 rfl) ⟨rfl, rfl⟩

set_option maxHeartbeats 1000000 in
theorem f77 (l : List (ByteArray × ByteArray)) (v : Value) (Ω : List Ob) (hM : MapO 115 2 (pv .string l) l.length v Ω) (hsrt : Srt l) (hlen : l.length ≤ 1000) (n : ByteArray) : Fc Tryz.prog 77 [R_ v, S_ n, R_ (.func (.func 78) #[] #[])] Ω (fun x Ω2 => x = .t [N_ (placeM l n : Nat), Bo (isM l n)] ∧ Ω2 = Ω) := by
  obtain ⟨a0, c0, rfl⟩ := hM.form
  refine Fc.enter Tryz.func77 rfl Tryz.ntmps77 rfl fun X w => ?_
  refine T.rg ?_
  refine L.as rfl rfl ?_
  refine L.as rfl rfl ?_
  refine L.nil ?_
  refine T.rg ?_
  refine L.mv rfl rfl ?_
  refine L.lenX Tryz.underlying27 rfl rfl ?_
  refine L.as rfl rfl ?_
  refine L.nil ?_
  refine T.rg ?_
  refine L.mv rfl rfl ?_
  refine L.as rfl rfl ?_
  refine L.as rfl rfl ?_
  refine L.nil ?_
  refine T.of_seq ?_
  refine T.block ?_
  refine T.loop (fun m σ Ω2 => ∃ i j : Nat, Between l n i j ∧ m = j - i ∧ σ = [(10, aN j), (9, aN i), (8, aN l.length), (2, aR (.func (.func 78) #[] #[])), (1, aS n), (0, aR (.slice a0 l.length c0))] ∧ Ω2 = Ω) (l.length) _ (⟨0, l.length, Between.start l n, rfl, rfl, rfl⟩) (by repeat constructor) ?_
  rintro m σ Ω ⟨i, j, hb, rfl, rfl, rfl⟩
  have hij := hb.1
  have hjl := hb.2.1
  refine T.of_seq ?_
  refine T.rg ?_
  refine L.mv rfl rfl ?_
  refine L.mv rfl rfl ?_
  refine L.cmp rfl rfl rfl rfl ?_
  refine L.nil ?_
  refine T.cond rfl (fun h17 => ?_) (fun h17 => ?_)
  · skip
    have hlt : i < j := by simpa using h17
    have hh : (i + j) / 2 < l.length := by omega
    refine T.skip ?_
    refine T.go (fun _ _ h => h) ?_
    refine T.block ?_
    refine T.rg ?_
    refine L.mv rfl rfl ?_
    refine L.mv rfl rfl ?_
    refine L.ar ((i + j : Nat) : Int) rfl rfl rfl (by omega) rfl ?_
    refine L.cvI ((i + j : Nat) : Int) (by rw [Tryz.underlying3]; rfl) Tryz.underlying173 rfl (by rw [IntKind.wrap_u64]; omega) rfl ?_
    refine L.shr 1 (((i + j) / 2 : Nat) : Int) rfl rfl (by omega) (by omega) rfl ?_
    refine L.cvI (((i + j) / 2 : Nat) : Int) (by rw [Tryz.underlying173]; rfl) Tryz.underlying3 rfl (by rw [IntKind.wrap_i64]; omega) rfl ?_
    refine L.as rfl rfl ?_
    refine L.nil ?_
    refine T.rg ?_
    refine L.mv rfl rfl ?_
    refine L.mv rfl rfl ?_
    refine L.mv rfl rfl ?_
    obtain ⟨g, cur, rfl, hc1, hc2, hc3, hus, rfl⟩ := hM.raw (by omega)
    refine L.ixX ((i + j) / 2) Tryz.underlying27 s115 rfl rfl rfl hh rfl ?_
    rw [Nat.zero_add]
    refine L.ldgX 0 a115 s115 rfl rfl (cur_at hus hh) rfl rfl rfl ?_
    refine L.mv rfl rfl ?_
    refine L.callV [] [] [_] rfl rfl e78 rfl rfl rfl (f78 l[(i + j) / 2].1 l[(i + j) / 2].2 n) ?_
    rintro _ _ ⟨rfl, rfl⟩
    refine L.cmp rfl rfl rfl rfl ?_
    refine L.nil ?_
    refine T.cond rfl (fun h31 => ?_) (fun h31 => ?_)
    · skip
      refine T.region ?_
      refine L.mv rfl rfl ?_
      refine L.ar (((i + j) / 2 + 1 : Nat) : Int) rfl rfl rfl (by omega) rfl ?_
      refine L.as rfl rfl ?_
      refine L.last ?_
      refine G.round (j - ((i + j) / 2 + 1)) _ (by omega) ⟨(i + j) / 2 + 1, j, hb.up hsrt hh (by omega) (by rw [← cmpS_neg]; exact h31), rfl, rfl, rfl⟩ (by repeat constructor)
    · skip
      refine T.region ?_
      refine L.mv rfl rfl ?_
      refine L.as rfl rfl ?_
      refine L.last ?_
      refine G.round ((i + j) / 2 - i) _ (by omega) ⟨i, (i + j) / 2, hb.down hsrt hh (by omega) (by rw [← cmpS_neg]; exact h31), rfl, rfl, rfl⟩ (by repeat constructor)
  · skip
    obtain rfl : i = j := by have : ¬ i < j := (by simpa using h17); omega
    have hp := hb.done
    refine T.exit ?_
    refine T.go (fun _ _ h => h) ?_
    refine T.rg ?_
    refine L.mv rfl rfl ?_
    refine L.mv rfl rfl ?_
    refine L.mv rfl rfl ?_
    refine L.cmp rfl rfl rfl rfl ?_
    refine L.mv rfl rfl ?_
    refine L.caseB 39 rfl (fun h39 => ?_) (fun h39 => ?_)
    · skip
      have hlt : i < l.length := by simpa using h39
      refine L.on rfl rfl ?_
      refine L.mv rfl rfl ?_
      refine L.on rfl rfl ?_
      refine L.mv rfl rfl ?_
      refine L.on rfl rfl ?_
      refine L.mv rfl rfl ?_
      refine L.on rfl rfl ?_
      obtain ⟨g, cur, rfl, hc1, hc2, hc3, hus, rfl⟩ := hM.raw (by omega)
      refine L.ixX i Tryz.underlying27 s115 rfl rfl rfl hlt rfl ?_
      rw [Nat.zero_add]
      refine L.on rfl rfl ?_
      refine L.ldgX 0 a115 s115 rfl rfl (cur_at hus hlt) rfl rfl rfl ?_
      refine L.on rfl rfl ?_
      refine L.mv rfl rfl ?_
      refine L.on rfl rfl ?_
      refine L.callV [] [] [_] rfl rfl e78 rfl rfl rfl (f78 l[i].1 l[i].2 n) ?_
      rintro _ _ ⟨rfl, rfl⟩
      refine L.on rfl rfl ?_
      refine L.cmp rfl rfl rfl rfl ?_
      refine L.pkT rfl rfl rfl ?_
      refine L.as rfl rfl ?_
      refine L.as rfl rfl ?_
      refine L.nil ?_
      refine T.ret ?_
      exact G.ret (res2 Tryz.results77 rfl rfl) ⟨by rw [hp, isM_at hp hlt, ← cmpS_zero], rfl⟩
    · skip
      have hge : l.length ≤ i := by simpa using h39
      refine L.off rfl rfl rfl rfl ?_
      refine L.off rfl rfl rfl rfl ?_
      refine L.off rfl rfl rfl rfl ?_
      refine L.off rfl rfl rfl rfl ?_
      refine L.off rfl rfl rfl rfl ?_
      refine L.off rfl rfl rfl rfl ?_
      refine L.off rfl rfl rfl rfl ?_
      refine L.off rfl rfl rfl rfl ?_
      refine L.pkF rfl rfl rfl ?_
      refine L.as rfl rfl ?_
      refine L.as rfl rfl ?_
      refine L.nil ?_
      refine T.ret ?_
      exact G.ret (res2 Tryz.results77 rfl rfl) ⟨by rw [hp, isM_end hp hge]; rfl, rfl⟩

set_option maxHeartbeats 400000 in
theorem f53 (l : List (ByteArray × ByteArray)) (v : Value) (Ω : List Ob) (hM : MapO 115 2 (pv .string l) l.length v Ω) (hsrt : Srt l) (hlen : l.length ≤ 1000) (n : ByteArray) : Fc Tryz.prog 53 [R_ v, S_ n] Ω (fun x Ω2 => x = .t [N_ (placeM l n : Nat), Bo (isM l n)] ∧ Ω2 = Ω) := by
  refine Fc.enter Tryz.func53 rfl Tryz.ntmps53 rfl fun X w => ?_
  refine T.rg ?_
  refine L.as rfl rfl ?_
  refine L.as rfl rfl ?_
  refine L.nil ?_
  refine T.rg ?_
  refine L.mv rfl rfl ?_
  refine L.mv rfl rfl ?_
  refine L.callO [] Ω [] (by simp) e77 rfl rfl (f77 l v Ω hM hsrt hlen n) ?_
  rintro _ _ ⟨rfl, rfl⟩
  refine L.ex rfl rfl rfl ?_
  refine L.ex rfl rfl rfl ?_
  refine L.as rfl rfl ?_
  refine L.as rfl rfl ?_
  refine L.nil ?_
  refine T.ret ?_
  exact G.ret (res2 Tryz.results53 rfl rfl) ⟨rfl, by simp⟩

set_option maxHeartbeats 400000 in
theorem f73 (a : ByteArray) (v : Int) (n : ByteArray) : Fc Tryz.prog 73 [.g [.d (.s a), .d (.i .i64 v)], S_ n] [] (Just (aN (cmpS a n))) := by
  refine Fc.enter Tryz.func73 rfl Tryz.ntmps73 rfl fun X w => ?_
  refine T.rg ?_
  refine L.box rfl rfl fun b2 => ?_
  refine L.as rfl rfl ?_
  refine L.nil ?_
  refine T.rg ?_
  refine L.fa Tryz.underlying110 rfl s9 rfl rfl ?_
  refine L.ld 0 o9 rfl rfl rfl rfl ?_
  refine L.mv rfl rfl ?_
  refine L.call e74 rfl rfl (f74 a n) ?_
  rintro _ _ ⟨rfl, rfl⟩
  refine L.as rfl rfl ?_
  refine L.nil ?_
  refine T.ret ?_
  refine G.conv (drop_at (i := 0) rfl rfl) ?_
  exact G.ret (res1 Tryz.results73 rfl) ⟨rfl, rfl⟩

set_option maxHeartbeats 1000000 in
theorem f72 (l : List (ByteArray × Int)) (v : Value) (Ω : List Ob) (hM : MapO 110 2 (pv (.int .i64) l) l.length v Ω) (hsrt : Srt l) (hlen : l.length ≤ 1000) (n : ByteArray) : Fc Tryz.prog 72 [R_ v, S_ n, R_ (.func (.func 73) #[] #[])] Ω (fun x Ω2 => x = .t [N_ (placeM l n : Nat), Bo (isM l n)] ∧ Ω2 = Ω) := by
  obtain ⟨a0, c0, rfl⟩ := hM.form
  refine Fc.enter Tryz.func72 rfl Tryz.ntmps72 rfl fun X w => ?_
  refine T.rg ?_
  refine L.as rfl rfl ?_
  refine L.as rfl rfl ?_
  refine L.nil ?_
  refine T.rg ?_
  refine L.mv rfl rfl ?_
  refine L.lenX Tryz.underlying29 rfl rfl ?_
  refine L.as rfl rfl ?_
  refine L.nil ?_
  refine T.rg ?_
  refine L.mv rfl rfl ?_
  refine L.as rfl rfl ?_
  refine L.as rfl rfl ?_
  refine L.nil ?_
  refine T.of_seq ?_
  refine T.block ?_
  refine T.loop (fun m σ Ω2 => ∃ i j : Nat, Between l n i j ∧ m = j - i ∧ σ = [(10, aN j), (9, aN i), (8, aN l.length), (2, aR (.func (.func 73) #[] #[])), (1, aS n), (0, aR (.slice a0 l.length c0))] ∧ Ω2 = Ω) (l.length) _ (⟨0, l.length, Between.start l n, rfl, rfl, rfl⟩) (by repeat constructor) ?_
  rintro m σ Ω ⟨i, j, hb, rfl, rfl, rfl⟩
  have hij := hb.1
  have hjl := hb.2.1
  refine T.of_seq ?_
  refine T.rg ?_
  refine L.mv rfl rfl ?_
  refine L.mv rfl rfl ?_
  refine L.cmp rfl rfl rfl rfl ?_
  refine L.nil ?_
  refine T.cond rfl (fun h17 => ?_) (fun h17 => ?_)
  · skip
    have hlt : i < j := by simpa using h17
    have hh : (i + j) / 2 < l.length := by omega
    refine T.skip ?_
    refine T.go (fun _ _ h => h) ?_
    refine T.block ?_
    refine T.rg ?_
    refine L.mv rfl rfl ?_
    refine L.mv rfl rfl ?_
    refine L.ar ((i + j : Nat) : Int) rfl rfl rfl (by omega) rfl ?_
    refine L.cvI ((i + j : Nat) : Int) (by rw [Tryz.underlying3]; rfl) Tryz.underlying173 rfl (by rw [IntKind.wrap_u64]; omega) rfl ?_
    refine L.shr 1 (((i + j) / 2 : Nat) : Int) rfl rfl (by omega) (by omega) rfl ?_
    refine L.cvI (((i + j) / 2 : Nat) : Int) (by rw [Tryz.underlying173]; rfl) Tryz.underlying3 rfl (by rw [IntKind.wrap_i64]; omega) rfl ?_
    refine L.as rfl rfl ?_
    refine L.nil ?_
    refine T.rg ?_
    refine L.mv rfl rfl ?_
    refine L.mv rfl rfl ?_
    refine L.mv rfl rfl ?_
    obtain ⟨g, cur, rfl, hc1, hc2, hc3, hus, rfl⟩ := hM.raw (by omega)
    refine L.ixX ((i + j) / 2) Tryz.underlying29 s110 rfl rfl rfl hh rfl ?_
    rw [Nat.zero_add]
    refine L.ldgX 0 a110 s110 rfl rfl (cur_at hus hh) rfl rfl rfl ?_
    refine L.mv rfl rfl ?_
    refine L.callV [] [] [_] rfl rfl e73 rfl rfl rfl (f73 l[(i + j) / 2].1 l[(i + j) / 2].2 n) ?_
    rintro _ _ ⟨rfl, rfl⟩
    refine L.cmp rfl rfl rfl rfl ?_
    refine L.nil ?_
    refine T.cond rfl (fun h31 => ?_) (fun h31 => ?_)
    · skip
      refine T.region ?_
      refine L.mv rfl rfl ?_
      refine L.ar (((i + j) / 2 + 1 : Nat) : Int) rfl rfl rfl (by omega) rfl ?_
      refine L.as rfl rfl ?_
      refine L.last ?_
      refine G.round (j - ((i + j) / 2 + 1)) _ (by omega) ⟨(i + j) / 2 + 1, j, hb.up hsrt hh (by omega) (by rw [← cmpS_neg]; exact h31), rfl, rfl, rfl⟩ (by repeat constructor)
    · skip
      refine T.region ?_
      refine L.mv rfl rfl ?_
      refine L.as rfl rfl ?_
      refine L.last ?_
      refine G.round ((i + j) / 2 - i) _ (by omega) ⟨i, (i + j) / 2, hb.down hsrt hh (by omega) (by rw [← cmpS_neg]; exact h31), rfl, rfl, rfl⟩ (by repeat constructor)
  · skip
    obtain rfl : i = j := by have : ¬ i < j := (by simpa using h17); omega
    have hp := hb.done
    refine T.exit ?_
    refine T.go (fun _ _ h => h) ?_
    refine T.rg ?_
    refine L.mv rfl rfl ?_
    refine L.mv rfl rfl ?_
    refine L.mv rfl rfl ?_
    refine L.cmp rfl rfl rfl rfl ?_
    refine L.mv rfl rfl ?_
    refine L.caseB 39 rfl (fun h39 => ?_) (fun h39 => ?_)
    · skip
      have hlt : i < l.length := by simpa using h39
      refine L.on rfl rfl ?_
      refine L.mv rfl rfl ?_
      refine L.on rfl rfl ?_
      refine L.mv rfl rfl ?_
      refine L.on rfl rfl ?_
      refine L.mv rfl rfl ?_
      refine L.on rfl rfl ?_
      obtain ⟨g, cur, rfl, hc1, hc2, hc3, hus, rfl⟩ := hM.raw (by omega)
      refine L.ixX i Tryz.underlying29 s110 rfl rfl rfl hlt rfl ?_
      rw [Nat.zero_add]
      refine L.on rfl rfl ?_
      refine L.ldgX 0 a110 s110 rfl rfl (cur_at hus hlt) rfl rfl rfl ?_
      refine L.on rfl rfl ?_
      refine L.mv rfl rfl ?_
      refine L.on rfl rfl ?_
      refine L.callV [] [] [_] rfl rfl e73 rfl rfl rfl (f73 l[i].1 l[i].2 n) ?_
      rintro _ _ ⟨rfl, rfl⟩
      refine L.on rfl rfl ?_
      refine L.cmp rfl rfl rfl rfl ?_
      refine L.pkT rfl rfl rfl ?_
      refine L.as rfl rfl ?_
      refine L.as rfl rfl ?_
      refine L.nil ?_
      refine T.ret ?_
      exact G.ret (res2 Tryz.results72 rfl rfl) ⟨by rw [hp, isM_at hp hlt, ← cmpS_zero], rfl⟩
    · skip
      have hge : l.length ≤ i := by simpa using h39
      refine L.off rfl rfl rfl rfl ?_
      refine L.off rfl rfl rfl rfl ?_
      refine L.off rfl rfl rfl rfl ?_
      refine L.off rfl rfl rfl rfl ?_
      refine L.off rfl rfl rfl rfl ?_
      refine L.off rfl rfl rfl rfl ?_
      refine L.off rfl rfl rfl rfl ?_
      refine L.off rfl rfl rfl rfl ?_
      refine L.pkF rfl rfl rfl ?_
      refine L.as rfl rfl ?_
      refine L.as rfl rfl ?_
      refine L.nil ?_
      refine T.ret ?_
      exact G.ret (res2 Tryz.results72 rfl rfl) ⟨by rw [hp, isM_end hp hge]; rfl, rfl⟩

set_option maxHeartbeats 400000 in
theorem f51 (l : List (ByteArray × Int)) (v : Value) (Ω : List Ob) (hM : MapO 110 2 (pv (.int .i64) l) l.length v Ω) (hsrt : Srt l) (hlen : l.length ≤ 1000) (n : ByteArray) : Fc Tryz.prog 51 [R_ v, S_ n] Ω (fun x Ω2 => x = .t [N_ (placeM l n : Nat), Bo (isM l n)] ∧ Ω2 = Ω) := by
  refine Fc.enter Tryz.func51 rfl Tryz.ntmps51 rfl fun X w => ?_
  refine T.rg ?_
  refine L.as rfl rfl ?_
  refine L.as rfl rfl ?_
  refine L.nil ?_
  refine T.rg ?_
  refine L.mv rfl rfl ?_
  refine L.mv rfl rfl ?_
  refine L.callO [] Ω [] (by simp) e72 rfl rfl (f72 l v Ω hM hsrt hlen n) ?_
  rintro _ _ ⟨rfl, rfl⟩
  refine L.ex rfl rfl rfl ?_
  refine L.ex rfl rfl rfl ?_
  refine L.as rfl rfl ?_
  refine L.as rfl rfl ?_
  refine L.nil ?_
  refine T.ret ?_
  exact G.ret (res2 Tryz.results51 rfl rfl) ⟨rfl, by simp⟩
end Go.Proofs.YtimimkdgofiloaaGreat
