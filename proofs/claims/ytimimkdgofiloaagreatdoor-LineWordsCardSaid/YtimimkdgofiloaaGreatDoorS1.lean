/- The leaves: bytes and names, in the program and in the document's answer. Printed by gen.py. -/
import Derived.Test.YtimimkdgofiloaaGreatDoorTy
import Derived.Test.YtimimkdgofiloaaGreatDoorDa
namespace Go.Proofs.YtimimkdgofiloaaGreatDoor
open Go Go.Q
set_option maxHeartbeats 400000 in
theorem f97 (c : UInt8) : Fc Tryz.prog 97 [B8 c] [] (Just (aB (letterB c))) := by
  refine Fc.enter Tryz.func97 rfl Tryz.ntmps97 rfl fun X w => ?_
  refine T.rg ?_
  refine L.as rfl rfl ?_
  refine L.nil ?_
  refine T.rg ?_
  refine L.mv rfl rfl ?_
  refine L.cmp rfl rfl rfl rfl ?_
  refine L.mv rfl rfl ?_
  refine L.caseB 5 rfl (fun h5 => ?_) (fun h5 => ?_)
  · skip
    refine L.on rfl rfl ?_
    refine L.mv rfl rfl ?_
    refine L.on rfl rfl ?_
    refine L.cmp rfl rfl rfl rfl ?_
    refine L.pkT rfl rfl rfl ?_
    refine L.as rfl rfl ?_
    refine L.nil ?_
    refine T.ret ?_
    exact G.ret (res1 Tryz.results97 rfl) ⟨rfl, congrArg aB (by simp_all [letterB] <;> omega)⟩
  · skip
    refine L.off rfl rfl rfl rfl ?_
    refine L.off rfl rfl rfl rfl ?_
    refine L.pkF rfl rfl rfl ?_
    refine L.as rfl rfl ?_
    refine L.nil ?_
    refine T.ret ?_
    exact G.ret (res1 Tryz.results97 rfl) ⟨rfl, congrArg aB (by simp_all [letterB] <;> omega)⟩

set_option maxHeartbeats 400000 in
theorem f78 (c : UInt8) : Fc Tryz.prog 78 [B8 c] [] (Just (aB (digitB c))) := by
  refine Fc.enter Tryz.func78 rfl Tryz.ntmps78 rfl fun X w => ?_
  refine T.rg ?_
  refine L.as rfl rfl ?_
  refine L.nil ?_
  refine T.rg ?_
  refine L.mv rfl rfl ?_
  refine L.cmp rfl rfl rfl rfl ?_
  refine L.mv rfl rfl ?_
  refine L.caseB 5 rfl (fun h5 => ?_) (fun h5 => ?_)
  · skip
    refine L.on rfl rfl ?_
    refine L.mv rfl rfl ?_
    refine L.on rfl rfl ?_
    refine L.cmp rfl rfl rfl rfl ?_
    refine L.pkT rfl rfl rfl ?_
    refine L.as rfl rfl ?_
    refine L.nil ?_
    refine T.ret ?_
    exact G.ret (res1 Tryz.results78 rfl) ⟨rfl, congrArg aB (by simp_all [digitB] <;> omega)⟩
  · skip
    refine L.off rfl rfl rfl rfl ?_
    refine L.off rfl rfl rfl rfl ?_
    refine L.pkF rfl rfl rfl ?_
    refine L.as rfl rfl ?_
    refine L.nil ?_
    refine T.ret ?_
    exact G.ret (res1 Tryz.results78 rfl) ⟨rfl, congrArg aB (by simp_all [digitB] <;> omega)⟩

set_option maxHeartbeats 400000 in
theorem f111 (c : UInt8) : Fc Tryz.prog 111 [B8 c] [] (Just (aB (plainB c))) := by
  refine Fc.enter Tryz.func111 rfl Tryz.ntmps111 rfl fun X w => ?_
  refine T.rg ?_
  refine L.as rfl rfl ?_
  refine L.nil ?_
  refine T.rg ?_
  refine L.mv rfl rfl ?_
  refine L.call e97 rfl rfl (f97 _) ?_
  rintro _ _ ⟨rfl, rfl⟩
  refine L.mv rfl rfl ?_
  refine L.caseB 5 rfl (fun h5 => ?_) (fun h5 => ?_)
  · skip
    refine L.off rfl rfl rfl rfl ?_
    refine L.off rfl rfl rfl rfl ?_
    refine L.pkT rfl rfl rfl ?_
    refine L.mv rfl rfl ?_
    refine L.off rfl rfl rfl rfl ?_
    refine L.off rfl rfl rfl rfl ?_
    refine L.pkT rfl rfl rfl ?_
    refine L.as rfl rfl ?_
    refine L.nil ?_
    refine T.ret ?_
    exact G.ret (res1 Tryz.results111 rfl) ⟨rfl, congrArg aB (by simp_all [plainB] <;> omega)⟩
  · skip
    refine L.on rfl rfl ?_
    refine L.mv rfl rfl ?_
    refine L.on rfl rfl ?_
    refine L.call e78 rfl rfl (f78 _) ?_
    rintro _ _ ⟨rfl, rfl⟩
    refine L.pkF rfl rfl rfl ?_
    refine L.mv rfl rfl ?_
    refine L.caseB 9 rfl (fun h9 => ?_) (fun h9 => ?_)
    · skip
      refine L.off rfl rfl rfl rfl ?_
      refine L.off rfl rfl rfl rfl ?_
      refine L.pkT rfl rfl rfl ?_
      refine L.as rfl rfl ?_
      refine L.nil ?_
      refine T.ret ?_
      exact G.ret (res1 Tryz.results111 rfl) ⟨rfl, congrArg aB (by simp_all [plainB] <;> omega)⟩
    · skip
      refine L.on rfl rfl ?_
      refine L.mv rfl rfl ?_
      refine L.on rfl rfl ?_
      refine L.cmp rfl rfl rfl rfl ?_
      refine L.pkF rfl rfl rfl ?_
      refine L.as rfl rfl ?_
      refine L.nil ?_
      refine T.ret ?_
      exact G.ret (res1 Tryz.results111 rfl) ⟨rfl, congrArg aB (by simp_all [plainB] <;> omega)⟩

set_option maxHeartbeats 400000 in
theorem f112 (c : UInt8) : Fc Tryz.prog 112 [B8 c] [] (Just (aB (visibleB c))) := by
  refine Fc.enter Tryz.func112 rfl Tryz.ntmps112 rfl fun X w => ?_
  refine T.rg ?_
  refine L.as rfl rfl ?_
  refine L.nil ?_
  refine T.rg ?_
  refine L.mv rfl rfl ?_
  refine L.cmp rfl rfl rfl rfl ?_
  refine L.mv rfl rfl ?_
  refine L.caseB 5 rfl (fun h5 => ?_) (fun h5 => ?_)
  · skip
    refine L.on rfl rfl ?_
    refine L.mv rfl rfl ?_
    refine L.on rfl rfl ?_
    refine L.cmp rfl rfl rfl rfl ?_
    refine L.pkT rfl rfl rfl ?_
    refine L.mv rfl rfl ?_
    refine L.caseB 9 rfl (fun h9 => ?_) (fun h9 => ?_)
    · skip
      refine L.on rfl rfl ?_
      refine L.mv rfl rfl ?_
      refine L.on rfl rfl ?_
      refine L.cmp rfl rfl rfl rfl ?_
      refine L.pkT rfl rfl rfl ?_
      refine L.mv rfl rfl ?_
      refine L.caseB 13 rfl (fun h13 => ?_) (fun h13 => ?_)
      · skip
        refine L.on rfl rfl ?_
        refine L.mv rfl rfl ?_
        refine L.on rfl rfl ?_
        refine L.cmp rfl rfl rfl rfl ?_
        refine L.pkT rfl rfl rfl ?_
        refine L.mv rfl rfl ?_
        refine L.caseB 17 rfl (fun h17 => ?_) (fun h17 => ?_)
        · skip
          refine L.on rfl rfl ?_
          refine L.mv rfl rfl ?_
          refine L.on rfl rfl ?_
          refine L.cmp rfl rfl rfl rfl ?_
          refine L.pkT rfl rfl rfl ?_
          refine L.as rfl rfl ?_
          refine L.nil ?_
          refine T.ret ?_
          exact G.ret (res1 Tryz.results112 rfl) ⟨rfl, congrArg aB (by simp_all [visibleB] <;> omega)⟩
        · skip
          refine L.off rfl rfl rfl rfl ?_
          refine L.off rfl rfl rfl rfl ?_
          refine L.pkF rfl rfl rfl ?_
          refine L.as rfl rfl ?_
          refine L.nil ?_
          refine T.ret ?_
          exact G.ret (res1 Tryz.results112 rfl) ⟨rfl, congrArg aB (by simp_all [visibleB] <;> omega)⟩
      · skip
        refine L.off rfl rfl rfl rfl ?_
        refine L.off rfl rfl rfl rfl ?_
        refine L.pkF rfl rfl rfl ?_
        refine L.mv rfl rfl ?_
        refine L.off rfl rfl rfl rfl ?_
        refine L.off rfl rfl rfl rfl ?_
        refine L.pkF rfl rfl rfl ?_
        refine L.as rfl rfl ?_
        refine L.nil ?_
        refine T.ret ?_
        exact G.ret (res1 Tryz.results112 rfl) ⟨rfl, congrArg aB (by simp_all [visibleB] <;> omega)⟩
    · skip
      refine L.off rfl rfl rfl rfl ?_
      refine L.off rfl rfl rfl rfl ?_
      refine L.pkF rfl rfl rfl ?_
      refine L.mv rfl rfl ?_
      refine L.off rfl rfl rfl rfl ?_
      refine L.off rfl rfl rfl rfl ?_
      refine L.pkF rfl rfl rfl ?_
      refine L.mv rfl rfl ?_
      refine L.off rfl rfl rfl rfl ?_
      refine L.off rfl rfl rfl rfl ?_
      refine L.pkF rfl rfl rfl ?_
      refine L.as rfl rfl ?_
      refine L.nil ?_
      refine T.ret ?_
      exact G.ret (res1 Tryz.results112 rfl) ⟨rfl, congrArg aB (by simp_all [visibleB] <;> omega)⟩
  · skip
    refine L.off rfl rfl rfl rfl ?_
    refine L.off rfl rfl rfl rfl ?_
    refine L.pkF rfl rfl rfl ?_
    refine L.mv rfl rfl ?_
    refine L.off rfl rfl rfl rfl ?_
    refine L.off rfl rfl rfl rfl ?_
    refine L.pkF rfl rfl rfl ?_
    refine L.mv rfl rfl ?_
    refine L.off rfl rfl rfl rfl ?_
    refine L.off rfl rfl rfl rfl ?_
    refine L.pkF rfl rfl rfl ?_
    refine L.mv rfl rfl ?_
    refine L.off rfl rfl rfl rfl ?_
    refine L.off rfl rfl rfl rfl ?_
    refine L.pkF rfl rfl rfl ?_
    refine L.as rfl rfl ?_
    refine L.nil ?_
    refine T.ret ?_
    exact G.ret (res1 Tryz.results112 rfl) ⟨rfl, congrArg aB (by simp_all [visibleB] <;> omega)⟩

set_option maxHeartbeats 400000 in
theorem f77 (s : ByteArray) (hs : s.size ≤ 9223372036854775807) (g : FuncId) (p : UInt8 → Bool) (hg : enters Tryz.prog g = true) (hp : ∀ c : UInt8, Fc Tryz.prog g [B8 c] [] (Just (aB (p c)))) : Fc Tryz.prog 77 [S_ s, R_ (.func (.func g) #[] #[])] [] (Just (aB (allB p s))) := by
  refine Fc.enter Tryz.func77 rfl Tryz.ntmps77 rfl fun X w => ?_
  refine T.rg ?_
  refine L.as rfl rfl ?_
  refine L.nil ?_
  refine T.of_seq ?_
  refine T.rg ?_
  refine L.mv rfl rfl ?_
  refine L.lenS Tryz.underlying9 rfl rfl ?_
  refine L.mv rfl rfl ?_
  refine L.nil ?_
  refine T.block ?_
  refine T.loop (fun m σ Ω => ∃ k : Nat, k ≤ s.size ∧ m = s.size - k ∧ (s.data.toList.take k).all p = true ∧ σ = [(8, aN k), (7, aN s.size), (1, aR (.func (.func g) #[] #[])), (0, aS s)] ∧ Ω = []) (s.size) _ (⟨0, by omega, by omega, by simp, rfl, rfl⟩) (by repeat constructor) ?_
  rintro m σ Ω ⟨k, hk, rfl, hall, rfl, rfl⟩
  refine T.rg ?_
  refine L.cmp rfl rfl rfl rfl ?_
  refine L.nil ?_
  refine T.of_seq ?_
  refine T.cond rfl (fun h9 => ?_) (fun h9 => ?_)
  · skip
    have hlt : k < s.size := by simpa using h9
    refine T.skip ?_
    refine T.go (fun _ _ h => h) ?_
    refine T.of_seq ?_
    refine T.block ?_
    refine T.rg ?_
    refine L.mv rfl rfl ?_
    refine L.as rfl rfl ?_
    refine L.nil ?_
    refine T.rg ?_
    refine L.mv rfl rfl ?_
    refine L.mv rfl rfl ?_
    refine L.mv rfl rfl ?_
    refine L.ixS k Tryz.underlying9 rfl rfl rfl hlt rfl ?_
    refine L.callV [] [] [] rfl rfl hg rfl rfl rfl (hp _) ?_
    rintro _ _ ⟨rfl, rfl⟩
    refine L.not rfl rfl ?_
    refine L.nil ?_
    refine T.cond rfl (fun h16 => ?_) (fun h16 => ?_)
    · skip
      refine T.rg ?_
      refine L.as rfl rfl ?_
      refine L.nil ?_
      refine T.ret ?_
      exact G.ret (res1 Tryz.results77 rfl) ⟨rfl, congrArg aB (allB_no hlt (by simpa using h16)).symm⟩
    · skip
      refine T.skip ?_
      refine T.go (fun _ _ h => h) ?_
      refine T.region ?_
      refine L.ar ((k + 1 : Nat) : Int) rfl rfl rfl (by omega) rfl ?_
      refine L.mv rfl rfl ?_
      refine L.last ?_
      refine G.round (s.size - (k + 1)) _ (by omega) ⟨k + 1, by omega, rfl, all_take_succ hlt hall (by simpa using h16), rfl, rfl⟩ (by repeat constructor)
  · skip
    have hge : s.size ≤ k := by simpa using h9
    refine T.exit ?_
    refine T.go (fun _ _ h => h) ?_
    refine T.rg ?_
    refine L.as rfl rfl ?_
    refine L.nil ?_
    refine T.ret ?_
    exact G.ret (res1 Tryz.results77 rfl) ⟨rfl, congrArg aB (allB_done hge hall).symm⟩

set_option maxHeartbeats 400000 in
theorem f96 (s : ByteArray) (hs : s.size ≤ 9223372036854775807) : Fc Tryz.prog 96 [S_ s] [] (Just (aB (keyB s))) := by
  refine Fc.enter Tryz.func96 rfl Tryz.ntmps96 rfl fun X w => ?_
  refine T.rg ?_
  refine L.as rfl rfl ?_
  refine L.nil ?_
  refine T.rg ?_
  refine L.mv rfl rfl ?_
  refine L.neS rfl rfl rfl ?_
  refine L.mv rfl rfl ?_
  refine L.caseB 5 rfl (fun h5 => ?_) (fun h5 => ?_)
  · skip
    refine L.on rfl rfl ?_
    refine L.mv rfl rfl ?_
    refine L.on rfl rfl ?_
    refine L.lenS Tryz.underlying9 rfl rfl ?_
    refine L.on rfl rfl ?_
    refine L.cmp rfl rfl rfl rfl ?_
    refine L.pkT rfl rfl rfl ?_
    refine L.mv rfl rfl ?_
    refine L.caseB 10 rfl (fun h10 => ?_) (fun h10 => ?_)
    · skip
      refine L.on rfl rfl ?_
      refine L.mv rfl rfl ?_
      refine L.on rfl rfl ?_
      refine L.call e77 rfl rfl (f77 s hs 111 plainB e111 f111) ?_
      rintro _ _ ⟨rfl, rfl⟩
      refine L.pkT rfl rfl rfl ?_
      refine L.as rfl rfl ?_
      refine L.nil ?_
      refine T.ret ?_
      exact G.ret (res1 Tryz.results96 rfl) ⟨rfl, congrArg aB (by rw [emp] at h5; simp_all [keyB] <;> omega)⟩
    · skip
      refine L.off rfl rfl rfl rfl ?_
      refine L.off rfl rfl rfl rfl ?_
      refine L.pkF rfl rfl rfl ?_
      refine L.as rfl rfl ?_
      refine L.nil ?_
      refine T.ret ?_
      exact G.ret (res1 Tryz.results96 rfl) ⟨rfl, congrArg aB (by rw [emp] at h5; simp_all [keyB] <;> omega)⟩
  · skip
    refine L.off rfl rfl rfl rfl ?_
    refine L.off rfl rfl rfl rfl ?_
    refine L.off rfl rfl rfl rfl ?_
    refine L.pkF rfl rfl rfl ?_
    refine L.mv rfl rfl ?_
    refine L.off rfl rfl rfl rfl ?_
    refine L.off rfl rfl rfl rfl ?_
    refine L.pkF rfl rfl rfl ?_
    refine L.as rfl rfl ?_
    refine L.nil ?_
    refine T.ret ?_
    exact G.ret (res1 Tryz.results96 rfl) ⟨rfl, congrArg aB (by rw [emp] at h5; simp_all [keyB] <;> omega)⟩

set_option maxHeartbeats 400000 in
theorem f72 (s : ByteArray) (hs : s.size ≤ 9223372036854775807) : Fc Tryz.prog 72 [S_ s] [] (Just (aB (nameB s))) := by
  refine Fc.enter Tryz.func72 rfl Tryz.ntmps72 rfl fun X w => ?_
  refine T.rg ?_
  refine L.as rfl rfl ?_
  refine L.nil ?_
  refine T.rg ?_
  refine L.mv rfl rfl ?_
  refine L.call e96 rfl rfl (f96 s hs) ?_
  rintro _ _ ⟨rfl, rfl⟩
  refine L.mv rfl rfl ?_
  refine L.caseB 5 rfl (fun h5 => ?_) (fun h5 => ?_)
  · skip
    have h0 := keyB_pos h5
    refine L.on rfl rfl ?_
    refine L.mv rfl rfl ?_
    refine L.on rfl rfl ?_
    refine L.ixS 0 Tryz.underlying9 rfl rfl rfl h0 rfl ?_
    refine L.on rfl rfl ?_
    refine L.call e97 rfl rfl (f97 _) ?_
    rintro _ _ ⟨rfl, rfl⟩
    refine L.pkT rfl rfl rfl ?_
    refine L.as rfl rfl ?_
    refine L.nil ?_
    refine T.ret ?_
    exact G.ret (res1 Tryz.results72 rfl) ⟨rfl, congrArg aB (by obtain ⟨r, hr⟩ := head_get s h0; simp [nameB, h5, hr])⟩
  · skip
    refine L.off rfl rfl rfl rfl ?_
    refine L.off rfl rfl rfl rfl ?_
    refine L.off rfl rfl rfl rfl ?_
    refine L.pkF rfl rfl rfl ?_
    refine L.as rfl rfl ?_
    refine L.nil ?_
    refine T.ret ?_
    exact G.ret (res1 Tryz.results72 rfl) ⟨rfl, congrArg aB (by simp [nameB, h5])⟩

set_option maxHeartbeats 400000 in
theorem f98 (s : ByteArray) (hs : s.size ≤ 9223372036854775807) : Fc Tryz.prog 98 [S_ s] [] (Just (aB (valueB s))) := by
  refine Fc.enter Tryz.func98 rfl Tryz.ntmps98 rfl fun X w => ?_
  refine T.rg ?_
  refine L.as rfl rfl ?_
  refine L.nil ?_
  refine T.rg ?_
  refine L.mv rfl rfl ?_
  refine L.lenS Tryz.underlying9 rfl rfl ?_
  refine L.cmp rfl rfl rfl rfl ?_
  refine L.mv rfl rfl ?_
  refine L.caseB 6 rfl (fun h6 => ?_) (fun h6 => ?_)
  · skip
    refine L.on rfl rfl ?_
    refine L.mv rfl rfl ?_
    refine L.on rfl rfl ?_
    refine L.call e77 rfl rfl (f77 s hs 112 visibleB e112 f112) ?_
    rintro _ _ ⟨rfl, rfl⟩
    refine L.pkT rfl rfl rfl ?_
    refine L.as rfl rfl ?_
    refine L.nil ?_
    refine T.ret ?_
    exact G.ret (res1 Tryz.results98 rfl) ⟨rfl, congrArg aB (by simp_all [valueB] <;> omega)⟩
  · skip
    refine L.off rfl rfl rfl rfl ?_
    refine L.off rfl rfl rfl rfl ?_
    refine L.pkF rfl rfl rfl ?_
    refine L.as rfl rfl ?_
    refine L.nil ?_
    refine T.ret ?_
    exact G.ret (res1 Tryz.results98 rfl) ⟨rfl, congrArg aB (by simp_all [valueB] <;> omega)⟩

set_option maxHeartbeats 400000 in
theorem f10 (s : ByteArray) (n : Nat) (hn : n ≤ 9223372036854775807) : Fc Tryz.prog 10 [S_ s, N_ (n : Int)] [] (Just (aS (s.extract 0 n))) := by
  refine Fc.enter Tryz.func10 rfl Tryz.ntmps10 rfl fun X w => ?_
  refine T.rg ?_
  refine L.as rfl rfl ?_
  refine L.nil ?_
  refine T.of_seq ?_
  refine T.rg ?_
  refine L.mv rfl rfl ?_
  refine L.lenS Tryz.underlying9 rfl rfl ?_
  refine L.mv rfl rfl ?_
  refine L.cmp rfl rfl rfl rfl ?_
  refine L.nil ?_
  refine T.cond rfl (fun h8 => ?_) (fun h8 => ?_)
  · skip
    have hlt : n < s.size := by simpa using h8
    refine T.rg ?_
    refine L.mv rfl rfl ?_
    refine L.mv rfl rfl ?_
    refine L.slS 0 n Tryz.underlying9 rfl rfl ⟨_, rfl⟩ ⟨by omega, by omega⟩ rfl ?_
    refine L.as rfl rfl ?_
    refine L.nil ?_
    refine T.ret ?_
    exact G.ret (res1 Tryz.results10 rfl) ⟨rfl, rfl⟩
  · skip
    have hge : s.size ≤ n := by simpa using h8
    refine T.skip ?_
    refine T.go (fun _ _ h => h) ?_
    refine T.rg ?_
    refine L.mv rfl rfl ?_
    refine L.as rfl rfl ?_
    refine L.nil ?_
    refine T.ret ?_
    exact G.ret (res1 Tryz.results10 rfl) ⟨rfl, congrArg aS (ext_all s n hge).symm⟩
end Go.Proofs.YtimimkdgofiloaaGreatDoor
