/- Maps as rising rows: searched. Printed by gen.py. -/
import Derived.Test.YtlibfaghiogekaaTy
import Derived.Test.YtlibfaghiogekaaDe
namespace Go.Proofs.Ytlibfaghiogekaa
open Go Go.Q
set_option maxHeartbeats 400000 in
theorem f84 (s : ByteArray) : Fc Try.prog 84 [S_ s] [] (Just (aB false)) := by
  refine Fc.enter Try.func84 rfl Try.ntmps84 rfl fun X w => ?_
  refine T.rg ?_
  refine L.as rfl rfl ?_
  refine L.nil ?_
  refine T.rg ?_
  refine L.mv rfl rfl ?_
  refine L.mv rfl rfl ?_
  refine L.neS rfl rfl rfl ?_
  refine L.as rfl rfl ?_
  refine L.nil ?_
  refine T.ret ?_
  exact G.ret (res1 Try.results84 rfl) ⟨rfl, congrArg aB (by simp)⟩

set_option maxHeartbeats 400000 in
theorem f66 (a b : ByteArray) : Fc Try.prog 66 [S_ a, S_ b] [] (Just (aN (cmpS a b))) := by
  refine Fc.enter Try.func66 rfl Try.ntmps66 rfl fun X w => ?_
  refine T.rg ?_
  refine L.as rfl rfl ?_
  refine L.nil ?_
  refine T.rg ?_
  refine L.mv rfl rfl ?_
  refine L.call e84 rfl rfl (f84 _) ?_
  rintro _ _ ⟨rfl, rfl⟩
  refine L.as rfl rfl ?_
  refine L.nil ?_
  refine T.rg ?_
  refine L.mv rfl rfl ?_
  refine L.call e84 rfl rfl (f84 _) ?_
  rintro _ _ ⟨rfl, rfl⟩
  refine L.as rfl rfl ?_
  refine L.nil ?_
  refine T.of_seq ?_
  refine T.rg ?_
  refine L.mv rfl rfl ?_
  refine L.nil ?_
  refine T.cond rfl (fun h11 => ?_) (fun h11 => ?_)
  · skip
    cases h11
  · skip
    refine T.skip ?_
    refine T.go (fun _ _ h => h) ?_
    refine T.of_seq ?_
    refine T.rg ?_
    refine L.mv rfl rfl ?_
    refine L.nil ?_
    refine T.cond rfl (fun h13 => ?_) (fun h13 => ?_)
    · skip
      cases h13
    · skip
      refine T.skip ?_
      refine T.go (fun _ _ h => h) ?_
      refine T.of_seq ?_
      refine T.rg ?_
      refine L.mv rfl rfl ?_
      refine L.mv rfl rfl ?_
      refine L.ltS rfl rfl rfl ?_
      refine L.nil ?_
      refine T.cond rfl (fun h16 => ?_) (fun h16 => ?_)
      · skip
        have h1 : lt a b = true := h16
        refine T.rg ?_
        refine L.as rfl rfl ?_
        refine L.nil ?_
        refine T.ret ?_
        exact G.ret (res1 Try.results66 rfl) ⟨rfl, congrArg aN (by simp [cmpS, h1])⟩
      · skip
        have h1 : lt a b = false := h16
        refine T.skip ?_
        refine T.go (fun _ _ h => h) ?_
        refine T.of_seq ?_
        refine T.rg ?_
        refine L.mv rfl rfl ?_
        refine L.mv rfl rfl ?_
        refine L.gtS rfl rfl rfl ?_
        refine L.nil ?_
        refine T.cond rfl (fun h19 => ?_) (fun h19 => ?_)
        · skip
          have h2 : ¬ a = b := by intro e; rw [e] at h19; simp at h19
          refine T.rg ?_
          refine L.as rfl rfl ?_
          refine L.nil ?_
          refine T.ret ?_
          exact G.ret (res1 Try.results66 rfl) ⟨rfl, congrArg aN (by simp [cmpS, h1, h2])⟩
        · skip
          have h2 : a = b := by
            simp only [Bool.not_eq_false', Bool.or_eq_true, decide_eq_true_eq] at h19
            exact h19.resolve_left (fun h => by have : lt a b = true := h; rw [h1] at this; cases this)
          refine T.skip ?_
          refine T.go (fun _ _ h => h) ?_
          refine T.rg ?_
          refine L.as rfl rfl ?_
          refine L.nil ?_
          refine T.ret ?_
          exact G.ret (res1 Try.results66 rfl) ⟨rfl, congrArg aN (by simp [cmpS, h2, lt_irr])⟩

set_option maxHeartbeats 400000 in
theorem f70 (a : ByteArray) (v : ByteArray) (n : ByteArray) : Fc Try.prog 70 [.g [.d (.s a), .d (.s v)], S_ n] [] (Just (aN (cmpS a n))) := by
  refine Fc.enter Try.func70 rfl Try.ntmps70 rfl fun X w => ?_
  refine T.rg ?_
  refine L.box rfl rfl fun b2 => ?_
  refine L.as rfl rfl ?_
  refine L.nil ?_
  refine T.rg ?_
  refine L.fa Try.underlying92 rfl s9 rfl rfl ?_
  refine L.ld 0 o9 rfl rfl rfl rfl ?_
  refine L.mv rfl rfl ?_
  refine L.call e66 rfl rfl (f66 a n) ?_
  rintro _ _ ⟨rfl, rfl⟩
  refine L.as rfl rfl ?_
  refine L.nil ?_
  refine T.ret ?_
  refine G.conv (drop_at (i := 0) rfl rfl) ?_
  exact G.ret (res1 Try.results70 rfl) ⟨rfl, rfl⟩

set_option maxHeartbeats 1000000 in
theorem f69 (l : List (ByteArray × ByteArray)) (v : Value) (Ω : List Ob) (hM : MapO 92 2 (pv .string l) l.length v Ω) (hsrt : Srt l) (hlen : l.length ≤ 1000) (n : ByteArray) : Fc Try.prog 69 [R_ v, S_ n, R_ (.func (.func 70) #[] #[])] Ω (fun x Ω2 => x = .t [N_ (placeM l n : Nat), Bo (isM l n)] ∧ Ω2 = Ω) := by
  obtain ⟨a0, c0, rfl⟩ := hM.form
  refine Fc.enter Try.func69 rfl Try.ntmps69 rfl fun X w => ?_
  refine T.rg ?_
  refine L.as rfl rfl ?_
  refine L.as rfl rfl ?_
  refine L.nil ?_
  refine T.rg ?_
  refine L.mv rfl rfl ?_
  refine L.lenX Try.underlying26 rfl rfl ?_
  refine L.as rfl rfl ?_
  refine L.nil ?_
  refine T.rg ?_
  refine L.mv rfl rfl ?_
  refine L.as rfl rfl ?_
  refine L.as rfl rfl ?_
  refine L.nil ?_
  refine T.of_seq ?_
  refine T.block ?_
  refine T.loop (fun m σ Ω2 => ∃ i j : Nat, Between l n i j ∧ m = j - i ∧ σ = [(10, aN j), (9, aN i), (8, aN l.length), (2, aR (.func (.func 70) #[] #[])), (1, aS n), (0, aR (.slice a0 l.length c0))] ∧ Ω2 = Ω) (l.length) _ (⟨0, l.length, Between.start l n, rfl, rfl, rfl⟩) (by repeat constructor) ?_
  rintro m σ Ω ⟨i, j, hb, rfl, rfl, rfl⟩
  have hij := hb.1
  have hjl := hb.2.1
  refine T.of_seq ?_
  refine T.rg ?_
  refine L.mv rfl rfl ?_
  refine L.mv rfl rfl ?_
  refine L.cmp rfl rfl rfl rfl ?_
  refine L.nil ?_
  refine T.cond rfl (fun h17 => ?_) (fun h17 => ?_)
  · skip
    have hlt : i < j := by simpa using h17
    have hh : (i + j) / 2 < l.length := by omega
    refine T.skip ?_
    refine T.go (fun _ _ h => h) ?_
    refine T.block ?_
    refine T.rg ?_
    refine L.mv rfl rfl ?_
    refine L.mv rfl rfl ?_
    refine L.ar ((i + j : Nat) : Int) rfl rfl rfl (by omega) rfl ?_
    refine L.cvI ((i + j : Nat) : Int) (by rw [Try.underlying3]; rfl) Try.underlying152 rfl (by rw [IntKind.wrap_u64]; omega) rfl ?_
    refine L.shr 1 (((i + j) / 2 : Nat) : Int) rfl rfl (by omega) (by omega) rfl ?_
    refine L.cvI (((i + j) / 2 : Nat) : Int) (by rw [Try.underlying152]; rfl) Try.underlying3 rfl (by rw [IntKind.wrap_i64]; omega) rfl ?_
    refine L.as rfl rfl ?_
    refine L.nil ?_
    refine T.rg ?_
    refine L.mv rfl rfl ?_
    refine L.mv rfl rfl ?_
    refine L.mv rfl rfl ?_
    obtain ⟨g, cur, rfl, hc1, hc2, hc3, hus, rfl⟩ := hM.raw (by omega)
    refine L.ixX ((i + j) / 2) Try.underlying26 s92 rfl rfl rfl hh rfl ?_
    rw [Nat.zero_add]
    refine L.ldgX 0 a92 s92 rfl rfl (cur_at hus hh) rfl rfl rfl ?_
    refine L.mv rfl rfl ?_
    refine L.callV [] [] [_] rfl rfl e70 rfl rfl rfl (f70 l[(i + j) / 2].1 l[(i + j) / 2].2 n) ?_
    rintro _ _ ⟨rfl, rfl⟩
    refine L.cmp rfl rfl rfl rfl ?_
    refine L.nil ?_
    refine T.cond rfl (fun h31 => ?_) (fun h31 => ?_)
    · skip
      refine T.region ?_
      refine L.mv rfl rfl ?_
      refine L.ar (((i + j) / 2 + 1 : Nat) : Int) rfl rfl rfl (by omega) rfl ?_
      refine L.as rfl rfl ?_
      refine L.last ?_
      refine G.round (j - ((i + j) / 2 + 1)) _ (by omega) ⟨(i + j) / 2 + 1, j, hb.up hsrt hh (by omega) (by rw [← cmpS_neg]; exact h31), rfl, rfl, rfl⟩ (by repeat constructor)
    · skip
      refine T.region ?_
      refine L.mv rfl rfl ?_
      refine L.as rfl rfl ?_
      refine L.last ?_
      refine G.round ((i + j) / 2 - i) _ (by omega) ⟨i, (i + j) / 2, hb.down hsrt hh (by omega) (by rw [← cmpS_neg]; exact h31), rfl, rfl, rfl⟩ (by repeat constructor)
  · skip
    obtain rfl : i = j := by have : ¬ i < j := (by simpa using h17); omega
    have hp := hb.done
    refine T.exit ?_
    refine T.go (fun _ _ h => h) ?_
    refine T.rg ?_
    refine L.mv rfl rfl ?_
    refine L.mv rfl rfl ?_
    refine L.mv rfl rfl ?_
    refine L.cmp rfl rfl rfl rfl ?_
    refine L.mv rfl rfl ?_
    refine L.caseB 39 rfl (fun h39 => ?_) (fun h39 => ?_)
    · skip
      have hlt : i < l.length := by simpa using h39
      refine L.on rfl rfl ?_
      refine L.mv rfl rfl ?_
      refine L.on rfl rfl ?_
      refine L.mv rfl rfl ?_
      refine L.on rfl rfl ?_
      refine L.mv rfl rfl ?_
      refine L.on rfl rfl ?_
      obtain ⟨g, cur, rfl, hc1, hc2, hc3, hus, rfl⟩ := hM.raw (by omega)
      refine L.ixX i Try.underlying26 s92 rfl rfl rfl hlt rfl ?_
      rw [Nat.zero_add]
      refine L.on rfl rfl ?_
      refine L.ldgX 0 a92 s92 rfl rfl (cur_at hus hlt) rfl rfl rfl ?_
      refine L.on rfl rfl ?_
      refine L.mv rfl rfl ?_
      refine L.on rfl rfl ?_
      refine L.callV [] [] [_] rfl rfl e70 rfl rfl rfl (f70 l[i].1 l[i].2 n) ?_
      rintro _ _ ⟨rfl, rfl⟩
      refine L.on rfl rfl ?_
      refine L.cmp rfl rfl rfl rfl ?_
      refine L.pkT rfl rfl rfl ?_
      refine L.as rfl rfl ?_
      refine L.as rfl rfl ?_
      refine L.nil ?_
      refine T.ret ?_
      exact G.ret (res2 Try.results69 rfl rfl) ⟨by rw [hp, isM_at hp hlt, ← cmpS_zero], rfl⟩
    · skip
      have hge : l.length ≤ i := by simpa using h39
      refine L.off rfl rfl rfl rfl ?_
      refine L.off rfl rfl rfl rfl ?_
      refine L.off rfl rfl rfl rfl ?_
      refine L.off rfl rfl rfl rfl ?_
      refine L.off rfl rfl rfl rfl ?_
      refine L.off rfl rfl rfl rfl ?_
      refine L.off rfl rfl rfl rfl ?_
      refine L.off rfl rfl rfl rfl ?_
      refine L.pkF rfl rfl rfl ?_
      refine L.as rfl rfl ?_
      refine L.as rfl rfl ?_
      refine L.nil ?_
      refine T.ret ?_
      exact G.ret (res2 Try.results69 rfl rfl) ⟨by rw [hp, isM_end hp hge]; rfl, rfl⟩

set_option maxHeartbeats 400000 in
theorem f49 (l : List (ByteArray × ByteArray)) (v : Value) (Ω : List Ob) (hM : MapO 92 2 (pv .string l) l.length v Ω) (hsrt : Srt l) (hlen : l.length ≤ 1000) (n : ByteArray) : Fc Try.prog 49 [R_ v, S_ n] Ω (fun x Ω2 => x = .t [N_ (placeM l n : Nat), Bo (isM l n)] ∧ Ω2 = Ω) := by
  refine Fc.enter Try.func49 rfl Try.ntmps49 rfl fun X w => ?_
  refine T.rg ?_
  refine L.as rfl rfl ?_
  refine L.as rfl rfl ?_
  refine L.nil ?_
  refine T.rg ?_
  refine L.mv rfl rfl ?_
  refine L.mv rfl rfl ?_
  refine L.callO [] Ω [] (by simp) e69 rfl rfl (f69 l v Ω hM hsrt hlen n) ?_
  rintro _ _ ⟨rfl, rfl⟩
  refine L.ex rfl rfl rfl ?_
  refine L.ex rfl rfl rfl ?_
  refine L.as rfl rfl ?_
  refine L.as rfl rfl ?_
  refine L.nil ?_
  refine T.ret ?_
  exact G.ret (res2 Try.results49 rfl rfl) ⟨rfl, by simp⟩

set_option maxHeartbeats 400000 in
theorem f65 (a : ByteArray) (v : Int) (n : ByteArray) : Fc Try.prog 65 [.g [.d (.s a), .d (.i .i64 v)], S_ n] [] (Just (aN (cmpS a n))) := by
  refine Fc.enter Try.func65 rfl Try.ntmps65 rfl fun X w => ?_
  refine T.rg ?_
  refine L.box rfl rfl fun b2 => ?_
  refine L.as rfl rfl ?_
  refine L.nil ?_
  refine T.rg ?_
  refine L.fa Try.underlying94 rfl s9 rfl rfl ?_
  refine L.ld 0 o9 rfl rfl rfl rfl ?_
  refine L.mv rfl rfl ?_
  refine L.call e66 rfl rfl (f66 a n) ?_
  rintro _ _ ⟨rfl, rfl⟩
  refine L.as rfl rfl ?_
  refine L.nil ?_
  refine T.ret ?_
  refine G.conv (drop_at (i := 0) rfl rfl) ?_
  exact G.ret (res1 Try.results65 rfl) ⟨rfl, rfl⟩

set_option maxHeartbeats 1000000 in
theorem f64 (l : List (ByteArray × Int)) (v : Value) (Ω : List Ob) (hM : MapO 94 2 (pv (.int .i64) l) l.length v Ω) (hsrt : Srt l) (hlen : l.length ≤ 1000) (n : ByteArray) : Fc Try.prog 64 [R_ v, S_ n, R_ (.func (.func 65) #[] #[])] Ω (fun x Ω2 => x = .t [N_ (placeM l n : Nat), Bo (isM l n)] ∧ Ω2 = Ω) := by
  obtain ⟨a0, c0, rfl⟩ := hM.form
  refine Fc.enter Try.func64 rfl Try.ntmps64 rfl fun X w => ?_
  refine T.rg ?_
  refine L.as rfl rfl ?_
  refine L.as rfl rfl ?_
  refine L.nil ?_
  refine T.rg ?_
  refine L.mv rfl rfl ?_
  refine L.lenX Try.underlying28 rfl rfl ?_
  refine L.as rfl rfl ?_
  refine L.nil ?_
  refine T.rg ?_
  refine L.mv rfl rfl ?_
  refine L.as rfl rfl ?_
  refine L.as rfl rfl ?_
  refine L.nil ?_
  refine T.of_seq ?_
  refine T.block ?_
  refine T.loop (fun m σ Ω2 => ∃ i j : Nat, Between l n i j ∧ m = j - i ∧ σ = [(10, aN j), (9, aN i), (8, aN l.length), (2, aR (.func (.func 65) #[] #[])), (1, aS n), (0, aR (.slice a0 l.length c0))] ∧ Ω2 = Ω) (l.length) _ (⟨0, l.length, Between.start l n, rfl, rfl, rfl⟩) (by repeat constructor) ?_
  rintro m σ Ω ⟨i, j, hb, rfl, rfl, rfl⟩
  have hij := hb.1
  have hjl := hb.2.1
  refine T.of_seq ?_
  refine T.rg ?_
  refine L.mv rfl rfl ?_
  refine L.mv rfl rfl ?_
  refine L.cmp rfl rfl rfl rfl ?_
  refine L.nil ?_
  refine T.cond rfl (fun h17 => ?_) (fun h17 => ?_)
  · skip
    have hlt : i < j := by simpa using h17
    have hh : (i + j) / 2 < l.length := by omega
    refine T.skip ?_
    refine T.go (fun _ _ h => h) ?_
    refine T.block ?_
    refine T.rg ?_
    refine L.mv rfl rfl ?_
    refine L.mv rfl rfl ?_
    refine L.ar ((i + j : Nat) : Int) rfl rfl rfl (by omega) rfl ?_
    refine L.cvI ((i + j : Nat) : Int) (by rw [Try.underlying3]; rfl) Try.underlying152 rfl (by rw [IntKind.wrap_u64]; omega) rfl ?_
    refine L.shr 1 (((i + j) / 2 : Nat) : Int) rfl rfl (by omega) (by omega) rfl ?_
    refine L.cvI (((i + j) / 2 : Nat) : Int) (by rw [Try.underlying152]; rfl) Try.underlying3 rfl (by rw [IntKind.wrap_i64]; omega) rfl ?_
    refine L.as rfl rfl ?_
    refine L.nil ?_
    refine T.rg ?_
    refine L.mv rfl rfl ?_
    refine L.mv rfl rfl ?_
    refine L.mv rfl rfl ?_
    obtain ⟨g, cur, rfl, hc1, hc2, hc3, hus, rfl⟩ := hM.raw (by omega)
    refine L.ixX ((i + j) / 2) Try.underlying28 s94 rfl rfl rfl hh rfl ?_
    rw [Nat.zero_add]
    refine L.ldgX 0 a94 s94 rfl rfl (cur_at hus hh) rfl rfl rfl ?_
    refine L.mv rfl rfl ?_
    refine L.callV [] [] [_] rfl rfl e65 rfl rfl rfl (f65 l[(i + j) / 2].1 l[(i + j) / 2].2 n) ?_
    rintro _ _ ⟨rfl, rfl⟩
    refine L.cmp rfl rfl rfl rfl ?_
    refine L.nil ?_
    refine T.cond rfl (fun h31 => ?_) (fun h31 => ?_)
    · skip
      refine T.region ?_
      refine L.mv rfl rfl ?_
      refine L.ar (((i + j) / 2 + 1 : Nat) : Int) rfl rfl rfl (by omega) rfl ?_
      refine L.as rfl rfl ?_
      refine L.last ?_
      refine G.round (j - ((i + j) / 2 + 1)) _ (by omega) ⟨(i + j) / 2 + 1, j, hb.up hsrt hh (by omega) (by rw [← cmpS_neg]; exact h31), rfl, rfl, rfl⟩ (by repeat constructor)
    · skip
      refine T.region ?_
      refine L.mv rfl rfl ?_
      refine L.as rfl rfl ?_
      refine L.last ?_
      refine G.round ((i + j) / 2 - i) _ (by omega) ⟨i, (i + j) / 2, hb.down hsrt hh (by omega) (by rw [← cmpS_neg]; exact h31), rfl, rfl, rfl⟩ (by repeat constructor)
  · skip
    obtain rfl : i = j := by have : ¬ i < j := (by simpa using h17); omega
    have hp := hb.done
    refine T.exit ?_
    refine T.go (fun _ _ h => h) ?_
    refine T.rg ?_
    refine L.mv rfl rfl ?_
    refine L.mv rfl rfl ?_
    refine L.mv rfl rfl ?_
    refine L.cmp rfl rfl rfl rfl ?_
    refine L.mv rfl rfl ?_
    refine L.caseB 39 rfl (fun h39 => ?_) (fun h39 => ?_)
    · skip
      have hlt : i < l.length := by simpa using h39
      refine L.on rfl rfl ?_
      refine L.mv rfl rfl ?_
      refine L.on rfl rfl ?_
      refine L.mv rfl rfl ?_
      refine L.on rfl rfl ?_
      refine L.mv rfl rfl ?_
      refine L.on rfl rfl ?_
      obtain ⟨g, cur, rfl, hc1, hc2, hc3, hus, rfl⟩ := hM.raw (by omega)
      refine L.ixX i Try.underlying28 s94 rfl rfl rfl hlt rfl ?_
      rw [Nat.zero_add]
      refine L.on rfl rfl ?_
      refine L.ldgX 0 a94 s94 rfl rfl (cur_at hus hlt) rfl rfl rfl ?_
      refine L.on rfl rfl ?_
      refine L.mv rfl rfl ?_
      refine L.on rfl rfl ?_
      refine L.callV [] [] [_] rfl rfl e65 rfl rfl rfl (f65 l[i].1 l[i].2 n) ?_
      rintro _ _ ⟨rfl, rfl⟩
      refine L.on rfl rfl ?_
      refine L.cmp rfl rfl rfl rfl ?_
      refine L.pkT rfl rfl rfl ?_
      refine L.as rfl rfl ?_
      refine L.as rfl rfl ?_
      refine L.nil ?_
      refine T.ret ?_
      exact G.ret (res2 Try.results64 rfl rfl) ⟨by rw [hp, isM_at hp hlt, ← cmpS_zero], rfl⟩
    · skip
      have hge : l.length ≤ i := by simpa using h39
      refine L.off rfl rfl rfl rfl ?_
      refine L.off rfl rfl rfl rfl ?_
      refine L.off rfl rfl rfl rfl ?_
      refine L.off rfl rfl rfl rfl ?_
      refine L.off rfl rfl rfl rfl ?_
      refine L.off rfl rfl rfl rfl ?_
      refine L.off rfl rfl rfl rfl ?_
      refine L.off rfl rfl rfl rfl ?_
      refine L.pkF rfl rfl rfl ?_
      refine L.as rfl rfl ?_
      refine L.as rfl rfl ?_
      refine L.nil ?_
      refine T.ret ?_
      exact G.ret (res2 Try.results64 rfl rfl) ⟨by rw [hp, isM_end hp hge]; rfl, rfl⟩

set_option maxHeartbeats 400000 in
theorem f47 (l : List (ByteArray × Int)) (v : Value) (Ω : List Ob) (hM : MapO 94 2 (pv (.int .i64) l) l.length v Ω) (hsrt : Srt l) (hlen : l.length ≤ 1000) (n : ByteArray) : Fc Try.prog 47 [R_ v, S_ n] Ω (fun x Ω2 => x = .t [N_ (placeM l n : Nat), Bo (isM l n)] ∧ Ω2 = Ω) := by
  refine Fc.enter Try.func47 rfl Try.ntmps47 rfl fun X w => ?_
  refine T.rg ?_
  refine L.as rfl rfl ?_
  refine L.as rfl rfl ?_
  refine L.nil ?_
  refine T.rg ?_
  refine L.mv rfl rfl ?_
  refine L.mv rfl rfl ?_
  refine L.callO [] Ω [] (by simp) e64 rfl rfl (f64 l v Ω hM hsrt hlen n) ?_
  rintro _ _ ⟨rfl, rfl⟩
  refine L.ex rfl rfl rfl ?_
  refine L.ex rfl rfl rfl ?_
  refine L.as rfl rfl ?_
  refine L.as rfl rfl ?_
  refine L.nil ?_
  refine T.ret ?_
  exact G.ret (res2 Try.results47 rfl rfl) ⟨rfl, by simp⟩
end Go.Proofs.Ytlibfaghiogekaa
