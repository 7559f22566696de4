/- The leaves: bytes and names, in the program and in the document's answer. Printed by gen.py. -/
import Derived.Test.YtlibfaghiogekaaTy
import Derived.Test.YtlibfaghiogekaaDa
namespace Go.Proofs.Ytlibfaghiogekaa
open Go Go.Q
set_option maxHeartbeats 400000 in
theorem f53 (c : UInt8) : Fc Try.prog 53 [B8 c] [] (Just (aB (letterB c))) := by
  refine Fc.enter Try.func53 rfl Try.ntmps53 rfl fun X w => ?_
  refine T.rg ?_
  refine L.as rfl rfl ?_
  refine L.nil ?_
  refine T.rg ?_
  refine L.mv rfl rfl ?_
  refine L.cmp rfl rfl rfl rfl ?_
  refine L.mv rfl rfl ?_
  refine L.caseB 5 rfl (fun h5 => ?_) (fun h5 => ?_)
  · skip
    refine L.on rfl rfl ?_
    refine L.mv rfl rfl ?_
    refine L.on rfl rfl ?_
    refine L.cmp rfl rfl rfl rfl ?_
    refine L.pkT rfl rfl rfl ?_
    refine L.as rfl rfl ?_
    refine L.nil ?_
    refine T.ret ?_
    exact G.ret (res1 Try.results53 rfl) ⟨rfl, congrArg aB (by simp_all [letterB] <;> omega)⟩
  · skip
    refine L.off rfl rfl rfl rfl ?_
    refine L.off rfl rfl rfl rfl ?_
    refine L.pkF rfl rfl rfl ?_
    refine L.as rfl rfl ?_
    refine L.nil ?_
    refine T.ret ?_
    exact G.ret (res1 Try.results53 rfl) ⟨rfl, congrArg aB (by simp_all [letterB] <;> omega)⟩

set_option maxHeartbeats 400000 in
theorem f91 (c : UInt8) : Fc Try.prog 91 [B8 c] [] (Just (aB (digitB c))) := by
  refine Fc.enter Try.func91 rfl Try.ntmps91 rfl fun X w => ?_
  refine T.rg ?_
  refine L.as rfl rfl ?_
  refine L.nil ?_
  refine T.rg ?_
  refine L.mv rfl rfl ?_
  refine L.cmp rfl rfl rfl rfl ?_
  refine L.mv rfl rfl ?_
  refine L.caseB 5 rfl (fun h5 => ?_) (fun h5 => ?_)
  · skip
    refine L.on rfl rfl ?_
    refine L.mv rfl rfl ?_
    refine L.on rfl rfl ?_
    refine L.cmp rfl rfl rfl rfl ?_
    refine L.pkT rfl rfl rfl ?_
    refine L.as rfl rfl ?_
    refine L.nil ?_
    refine T.ret ?_
    exact G.ret (res1 Try.results91 rfl) ⟨rfl, congrArg aB (by simp_all [digitB] <;> omega)⟩
  · skip
    refine L.off rfl rfl rfl rfl ?_
    refine L.off rfl rfl rfl rfl ?_
    refine L.pkF rfl rfl rfl ?_
    refine L.as rfl rfl ?_
    refine L.nil ?_
    refine T.ret ?_
    exact G.ret (res1 Try.results91 rfl) ⟨rfl, congrArg aB (by simp_all [digitB] <;> omega)⟩

set_option maxHeartbeats 400000 in
theorem f78 (c : UInt8) : Fc Try.prog 78 [B8 c] [] (Just (aB (plainB c))) := by
  refine Fc.enter Try.func78 rfl Try.ntmps78 rfl fun X w => ?_
  refine T.rg ?_
  refine L.as rfl rfl ?_
  refine L.nil ?_
  refine T.rg ?_
  refine L.mv rfl rfl ?_
  refine L.call e53 rfl rfl (f53 _) ?_
  rintro _ _ ⟨rfl, rfl⟩
  refine L.mv rfl rfl ?_
  refine L.caseB 5 rfl (fun h5 => ?_) (fun h5 => ?_)
  · skip
    refine L.off rfl rfl rfl rfl ?_
    refine L.off rfl rfl rfl rfl ?_
    refine L.pkT rfl rfl rfl ?_
    refine L.mv rfl rfl ?_
    refine L.off rfl rfl rfl rfl ?_
    refine L.off rfl rfl rfl rfl ?_
    refine L.pkT rfl rfl rfl ?_
    refine L.as rfl rfl ?_
    refine L.nil ?_
    refine T.ret ?_
    exact G.ret (res1 Try.results78 rfl) ⟨rfl, congrArg aB (by simp_all [plainB] <;> omega)⟩
  · skip
    refine L.on rfl rfl ?_
    refine L.mv rfl rfl ?_
    refine L.on rfl rfl ?_
    refine L.call e91 rfl rfl (f91 _) ?_
    rintro _ _ ⟨rfl, rfl⟩
    refine L.pkF rfl rfl rfl ?_
    refine L.mv rfl rfl ?_
    refine L.caseB 9 rfl (fun h9 => ?_) (fun h9 => ?_)
    · skip
      refine L.off rfl rfl rfl rfl ?_
      refine L.off rfl rfl rfl rfl ?_
      refine L.pkT rfl rfl rfl ?_
      refine L.as rfl rfl ?_
      refine L.nil ?_
      refine T.ret ?_
      exact G.ret (res1 Try.results78 rfl) ⟨rfl, congrArg aB (by simp_all [plainB] <;> omega)⟩
    · skip
      refine L.on rfl rfl ?_
      refine L.mv rfl rfl ?_
      refine L.on rfl rfl ?_
      refine L.cmp rfl rfl rfl rfl ?_
      refine L.pkF rfl rfl rfl ?_
      refine L.as rfl rfl ?_
      refine L.nil ?_
      refine T.ret ?_
      exact G.ret (res1 Try.results78 rfl) ⟨rfl, congrArg aB (by simp_all [plainB] <;> omega)⟩

set_option maxHeartbeats 400000 in
theorem f79 (c : UInt8) : Fc Try.prog 79 [B8 c] [] (Just (aB (visibleB c))) := by
  refine Fc.enter Try.func79 rfl Try.ntmps79 rfl fun X w => ?_
  refine T.rg ?_
  refine L.as rfl rfl ?_
  refine L.nil ?_
  refine T.rg ?_
  refine L.mv rfl rfl ?_
  refine L.cmp rfl rfl rfl rfl ?_
  refine L.mv rfl rfl ?_
  refine L.caseB 5 rfl (fun h5 => ?_) (fun h5 => ?_)
  · skip
    refine L.on rfl rfl ?_
    refine L.mv rfl rfl ?_
    refine L.on rfl rfl ?_
    refine L.cmp rfl rfl rfl rfl ?_
    refine L.pkT rfl rfl rfl ?_
    refine L.mv rfl rfl ?_
    refine L.caseB 9 rfl (fun h9 => ?_) (fun h9 => ?_)
    · skip
      refine L.on rfl rfl ?_
      refine L.mv rfl rfl ?_
      refine L.on rfl rfl ?_
      refine L.cmp rfl rfl rfl rfl ?_
      refine L.pkT rfl rfl rfl ?_
      refine L.mv rfl rfl ?_
      refine L.caseB 13 rfl (fun h13 => ?_) (fun h13 => ?_)
      · skip
        refine L.on rfl rfl ?_
        refine L.mv rfl rfl ?_
        refine L.on rfl rfl ?_
        refine L.cmp rfl rfl rfl rfl ?_
        refine L.pkT rfl rfl rfl ?_
        refine L.mv rfl rfl ?_
        refine L.caseB 17 rfl (fun h17 => ?_) (fun h17 => ?_)
        · skip
          refine L.on rfl rfl ?_
          refine L.mv rfl rfl ?_
          refine L.on rfl rfl ?_
          refine L.cmp rfl rfl rfl rfl ?_
          refine L.pkT rfl rfl rfl ?_
          refine L.as rfl rfl ?_
          refine L.nil ?_
          refine T.ret ?_
          exact G.ret (res1 Try.results79 rfl) ⟨rfl, congrArg aB (by simp_all [visibleB] <;> omega)⟩
        · skip
          refine L.off rfl rfl rfl rfl ?_
          refine L.off rfl rfl rfl rfl ?_
          refine L.pkF rfl rfl rfl ?_
          refine L.as rfl rfl ?_
          refine L.nil ?_
          refine T.ret ?_
          exact G.ret (res1 Try.results79 rfl) ⟨rfl, congrArg aB (by simp_all [visibleB] <;> omega)⟩
      · skip
        refine L.off rfl rfl rfl rfl ?_
        refine L.off rfl rfl rfl rfl ?_
        refine L.pkF rfl rfl rfl ?_
        refine L.mv rfl rfl ?_
        refine L.off rfl rfl rfl rfl ?_
        refine L.off rfl rfl rfl rfl ?_
        refine L.pkF rfl rfl rfl ?_
        refine L.as rfl rfl ?_
        refine L.nil ?_
        refine T.ret ?_
        exact G.ret (res1 Try.results79 rfl) ⟨rfl, congrArg aB (by simp_all [visibleB] <;> omega)⟩
    · skip
      refine L.off rfl rfl rfl rfl ?_
      refine L.off rfl rfl rfl rfl ?_
      refine L.pkF rfl rfl rfl ?_
      refine L.mv rfl rfl ?_
      refine L.off rfl rfl rfl rfl ?_
      refine L.off rfl rfl rfl rfl ?_
      refine L.pkF rfl rfl rfl ?_
      refine L.mv rfl rfl ?_
      refine L.off rfl rfl rfl rfl ?_
      refine L.off rfl rfl rfl rfl ?_
      refine L.pkF rfl rfl rfl ?_
      refine L.as rfl rfl ?_
      refine L.nil ?_
      refine T.ret ?_
      exact G.ret (res1 Try.results79 rfl) ⟨rfl, congrArg aB (by simp_all [visibleB] <;> omega)⟩
  · skip
    refine L.off rfl rfl rfl rfl ?_
    refine L.off rfl rfl rfl rfl ?_
    refine L.pkF rfl rfl rfl ?_
    refine L.mv rfl rfl ?_
    refine L.off rfl rfl rfl rfl ?_
    refine L.off rfl rfl rfl rfl ?_
    refine L.pkF rfl rfl rfl ?_
    refine L.mv rfl rfl ?_
    refine L.off rfl rfl rfl rfl ?_
    refine L.off rfl rfl rfl rfl ?_
    refine L.pkF rfl rfl rfl ?_
    refine L.mv rfl rfl ?_
    refine L.off rfl rfl rfl rfl ?_
    refine L.off rfl rfl rfl rfl ?_
    refine L.pkF rfl rfl rfl ?_
    refine L.as rfl rfl ?_
    refine L.nil ?_
    refine T.ret ?_
    exact G.ret (res1 Try.results79 rfl) ⟨rfl, congrArg aB (by simp_all [visibleB] <;> omega)⟩

set_option maxHeartbeats 400000 in
theorem f56 (c : UInt8) : Fc Try.prog 56 [B8 c] [] (Just (aB (stopB c))) := by
  refine Fc.enter Try.func56 rfl Try.ntmps56 rfl fun X w => ?_
  refine T.rg ?_
  refine L.as rfl rfl ?_
  refine L.nil ?_
  refine T.rg ?_
  refine L.mv rfl rfl ?_
  refine L.cmp rfl rfl rfl rfl ?_
  refine L.mv rfl rfl ?_
  refine L.caseB 5 rfl (fun h5 => ?_) (fun h5 => ?_)
  · skip
    refine L.off rfl rfl rfl rfl ?_
    refine L.off rfl rfl rfl rfl ?_
    refine L.pkT rfl rfl rfl ?_
    refine L.mv rfl rfl ?_
    refine L.off rfl rfl rfl rfl ?_
    refine L.off rfl rfl rfl rfl ?_
    refine L.pkT rfl rfl rfl ?_
    refine L.mv rfl rfl ?_
    refine L.off rfl rfl rfl rfl ?_
    refine L.off rfl rfl rfl rfl ?_
    refine L.pkT rfl rfl rfl ?_
    refine L.mv rfl rfl ?_
    refine L.off rfl rfl rfl rfl ?_
    refine L.off rfl rfl rfl rfl ?_
    refine L.pkT rfl rfl rfl ?_
    refine L.mv rfl rfl ?_
    refine L.off rfl rfl rfl rfl ?_
    refine L.off rfl rfl rfl rfl ?_
    refine L.pkT rfl rfl rfl ?_
    refine L.as rfl rfl ?_
    refine L.nil ?_
    refine T.ret ?_
    exact G.ret (res1 Try.results56 rfl) ⟨rfl, congrArg aB (by simp_all [stopB] <;> omega)⟩
  · skip
    refine L.on rfl rfl ?_
    refine L.mv rfl rfl ?_
    refine L.on rfl rfl ?_
    refine L.cmp rfl rfl rfl rfl ?_
    refine L.pkF rfl rfl rfl ?_
    refine L.mv rfl rfl ?_
    refine L.caseB 9 rfl (fun h9 => ?_) (fun h9 => ?_)
    · skip
      refine L.off rfl rfl rfl rfl ?_
      refine L.off rfl rfl rfl rfl ?_
      refine L.pkT rfl rfl rfl ?_
      refine L.mv rfl rfl ?_
      refine L.off rfl rfl rfl rfl ?_
      refine L.off rfl rfl rfl rfl ?_
      refine L.pkT rfl rfl rfl ?_
      refine L.mv rfl rfl ?_
      refine L.off rfl rfl rfl rfl ?_
      refine L.off rfl rfl rfl rfl ?_
      refine L.pkT rfl rfl rfl ?_
      refine L.mv rfl rfl ?_
      refine L.off rfl rfl rfl rfl ?_
      refine L.off rfl rfl rfl rfl ?_
      refine L.pkT rfl rfl rfl ?_
      refine L.as rfl rfl ?_
      refine L.nil ?_
      refine T.ret ?_
      exact G.ret (res1 Try.results56 rfl) ⟨rfl, congrArg aB (by simp_all [stopB] <;> omega)⟩
    · skip
      refine L.on rfl rfl ?_
      refine L.mv rfl rfl ?_
      refine L.on rfl rfl ?_
      refine L.cmp rfl rfl rfl rfl ?_
      refine L.pkF rfl rfl rfl ?_
      refine L.mv rfl rfl ?_
      refine L.caseB 13 rfl (fun h13 => ?_) (fun h13 => ?_)
      · skip
        refine L.off rfl rfl rfl rfl ?_
        refine L.off rfl rfl rfl rfl ?_
        refine L.pkT rfl rfl rfl ?_
        refine L.mv rfl rfl ?_
        refine L.off rfl rfl rfl rfl ?_
        refine L.off rfl rfl rfl rfl ?_
        refine L.pkT rfl rfl rfl ?_
        refine L.mv rfl rfl ?_
        refine L.off rfl rfl rfl rfl ?_
        refine L.off rfl rfl rfl rfl ?_
        refine L.pkT rfl rfl rfl ?_
        refine L.as rfl rfl ?_
        refine L.nil ?_
        refine T.ret ?_
        exact G.ret (res1 Try.results56 rfl) ⟨rfl, congrArg aB (by simp_all [stopB] <;> omega)⟩
      · skip
        refine L.on rfl rfl ?_
        refine L.mv rfl rfl ?_
        refine L.on rfl rfl ?_
        refine L.cmp rfl rfl rfl rfl ?_
        refine L.pkF rfl rfl rfl ?_
        refine L.mv rfl rfl ?_
        refine L.caseB 17 rfl (fun h17 => ?_) (fun h17 => ?_)
        · skip
          refine L.off rfl rfl rfl rfl ?_
          refine L.off rfl rfl rfl rfl ?_
          refine L.pkT rfl rfl rfl ?_
          refine L.mv rfl rfl ?_
          refine L.off rfl rfl rfl rfl ?_
          refine L.off rfl rfl rfl rfl ?_
          refine L.pkT rfl rfl rfl ?_
          refine L.as rfl rfl ?_
          refine L.nil ?_
          refine T.ret ?_
          exact G.ret (res1 Try.results56 rfl) ⟨rfl, congrArg aB (by simp_all [stopB] <;> omega)⟩
        · skip
          refine L.on rfl rfl ?_
          refine L.mv rfl rfl ?_
          refine L.on rfl rfl ?_
          refine L.cmp rfl rfl rfl rfl ?_
          refine L.pkF rfl rfl rfl ?_
          refine L.mv rfl rfl ?_
          refine L.caseB 21 rfl (fun h21 => ?_) (fun h21 => ?_)
          · skip
            refine L.off rfl rfl rfl rfl ?_
            refine L.off rfl rfl rfl rfl ?_
            refine L.pkT rfl rfl rfl ?_
            refine L.as rfl rfl ?_
            refine L.nil ?_
            refine T.ret ?_
            exact G.ret (res1 Try.results56 rfl) ⟨rfl, congrArg aB (by simp_all [stopB] <;> omega)⟩
          · skip
            refine L.on rfl rfl ?_
            refine L.mv rfl rfl ?_
            refine L.on rfl rfl ?_
            refine L.cmp rfl rfl rfl rfl ?_
            refine L.pkF rfl rfl rfl ?_
            refine L.as rfl rfl ?_
            refine L.nil ?_
            refine T.ret ?_
            exact G.ret (res1 Try.results56 rfl) ⟨rfl, congrArg aB (by simp_all [stopB] <;> omega)⟩

set_option maxHeartbeats 400000 in
theorem f92 (c : UInt8) : Fc Try.prog 92 [B8 c] [] (Just (aB (plainB c))) := by
  refine Fc.enter Try.func92 rfl Try.ntmps92 rfl fun X w => ?_
  refine T.rg ?_
  refine L.as rfl rfl ?_
  refine L.nil ?_
  refine T.rg ?_
  refine L.mv rfl rfl ?_
  refine L.cmp rfl rfl rfl rfl ?_
  refine L.mv rfl rfl ?_
  refine L.caseB 5 rfl (fun h5 => ?_) (fun h5 => ?_)
  · skip
    refine L.on rfl rfl ?_
    refine L.mv rfl rfl ?_
    refine L.on rfl rfl ?_
    refine L.cmp rfl rfl rfl rfl ?_
    refine L.pkT rfl rfl rfl ?_
    refine L.mv rfl rfl ?_
    refine L.caseB 9 rfl (fun h9 => ?_) (fun h9 => ?_)
    · skip
      refine L.off rfl rfl rfl rfl ?_
      refine L.off rfl rfl rfl rfl ?_
      refine L.off rfl rfl rfl rfl ?_
      refine L.offU rfl rfl rfl ?_
      refine L.offU rfl rfl rfl ?_
      refine L.off rfl rfl rfl rfl ?_
      refine L.pkT rfl rfl rfl ?_
      refine L.mv rfl rfl ?_
      refine L.off rfl rfl rfl rfl ?_
      refine L.off rfl rfl rfl rfl ?_
      refine L.pkT rfl rfl rfl ?_
      refine L.as rfl rfl ?_
      refine L.nil ?_
      refine T.ret ?_
      exact G.ret (res1 Try.results92 rfl) ⟨rfl, congrArg aB (by simp_all [plainB, letterB, digitB] <;> omega)⟩
    · skip
      refine L.on rfl rfl ?_
      refine L.mv rfl rfl ?_
      refine L.on rfl rfl ?_
      refine L.cmp rfl rfl rfl rfl ?_
      refine L.on rfl rfl ?_
      refine L.mv rfl rfl ?_
      refine L.caseB 12 rfl (fun h12 => ?_) (fun h12 => ?_)
      · skip
        refine L.on rfl rfl ?_
        refine L.mv rfl rfl ?_
        refine L.on rfl rfl ?_
        refine L.cmp rfl rfl rfl rfl ?_
        refine L.on rfl rfl ?_
        refine L.pkT rfl rfl rfl ?_
        refine L.pkF rfl rfl rfl ?_
        refine L.mv rfl rfl ?_
        refine L.caseB 17 rfl (fun h17 => ?_) (fun h17 => ?_)
        · skip
          refine L.off rfl rfl rfl rfl ?_
          refine L.off rfl rfl rfl rfl ?_
          refine L.pkT rfl rfl rfl ?_
          refine L.as rfl rfl ?_
          refine L.nil ?_
          refine T.ret ?_
          exact G.ret (res1 Try.results92 rfl) ⟨rfl, congrArg aB (by simp_all [plainB, letterB, digitB] <;> omega)⟩
        · skip
          refine L.on rfl rfl ?_
          refine L.mv rfl rfl ?_
          refine L.on rfl rfl ?_
          refine L.cmp rfl rfl rfl rfl ?_
          refine L.pkF rfl rfl rfl ?_
          refine L.as rfl rfl ?_
          refine L.nil ?_
          refine T.ret ?_
          exact G.ret (res1 Try.results92 rfl) ⟨rfl, congrArg aB (by simp_all [plainB, letterB, digitB] <;> omega)⟩
      · skip
        refine L.off rfl rfl rfl rfl ?_
        refine L.off rfl rfl rfl rfl ?_
        refine L.on rfl rfl ?_
        refine L.pkF rfl rfl rfl ?_
        refine L.pkF rfl rfl rfl ?_
        refine L.mv rfl rfl ?_
        refine L.on rfl rfl ?_
        refine L.mv rfl rfl ?_
        refine L.on rfl rfl ?_
        refine L.cmp rfl rfl rfl rfl ?_
        refine L.pkF rfl rfl rfl ?_
        refine L.as rfl rfl ?_
        refine L.nil ?_
        refine T.ret ?_
        exact G.ret (res1 Try.results92 rfl) ⟨rfl, congrArg aB (by simp_all [plainB, letterB, digitB] <;> omega)⟩
  · skip
    refine L.off rfl rfl rfl rfl ?_
    refine L.off rfl rfl rfl rfl ?_
    refine L.pkF rfl rfl rfl ?_
    refine L.mv rfl rfl ?_
    refine L.on rfl rfl ?_
    refine L.mv rfl rfl ?_
    refine L.on rfl rfl ?_
    refine L.cmp rfl rfl rfl rfl ?_
    refine L.on rfl rfl ?_
    refine L.mv rfl rfl ?_
    refine L.caseB 12 rfl (fun h12 => ?_) (fun h12 => ?_)
    · skip
      refine L.on rfl rfl ?_
      refine L.mv rfl rfl ?_
      refine L.on rfl rfl ?_
      refine L.cmp rfl rfl rfl rfl ?_
      refine L.on rfl rfl ?_
      refine L.pkT rfl rfl rfl ?_
      refine L.pkF rfl rfl rfl ?_
      refine L.mv rfl rfl ?_
      refine L.caseB 17 rfl (fun h17 => ?_) (fun h17 => ?_)
      · skip
        refine L.off rfl rfl rfl rfl ?_
        refine L.off rfl rfl rfl rfl ?_
        refine L.pkT rfl rfl rfl ?_
        refine L.as rfl rfl ?_
        refine L.nil ?_
        refine T.ret ?_
        exact G.ret (res1 Try.results92 rfl) ⟨rfl, congrArg aB (by simp_all [plainB, letterB, digitB] <;> omega)⟩
      · skip
        refine L.on rfl rfl ?_
        refine L.mv rfl rfl ?_
        refine L.on rfl rfl ?_
        refine L.cmp rfl rfl rfl rfl ?_
        refine L.pkF rfl rfl rfl ?_
        refine L.as rfl rfl ?_
        refine L.nil ?_
        refine T.ret ?_
        exact G.ret (res1 Try.results92 rfl) ⟨rfl, congrArg aB (by simp_all [plainB, letterB, digitB] <;> omega)⟩
    · skip
      refine L.off rfl rfl rfl rfl ?_
      refine L.off rfl rfl rfl rfl ?_
      refine L.on rfl rfl ?_
      refine L.pkF rfl rfl rfl ?_
      refine L.pkF rfl rfl rfl ?_
      refine L.mv rfl rfl ?_
      refine L.on rfl rfl ?_
      refine L.mv rfl rfl ?_
      refine L.on rfl rfl ?_
      refine L.cmp rfl rfl rfl rfl ?_
      refine L.pkF rfl rfl rfl ?_
      refine L.as rfl rfl ?_
      refine L.nil ?_
      refine T.ret ?_
      exact G.ret (res1 Try.results92 rfl) ⟨rfl, congrArg aB (by simp_all [plainB, letterB, digitB] <;> omega)⟩

set_option maxHeartbeats 400000 in
theorem f77 (s : ByteArray) (hs : s.size ≤ 9223372036854775807) (g : FuncId) (p : UInt8 → Bool) (hg : enters Try.prog g = true) (hp : ∀ c : UInt8, Fc Try.prog g [B8 c] [] (Just (aB (p c)))) : Fc Try.prog 77 [S_ s, R_ (.func (.func g) #[] #[])] [] (Just (aB (allB p s))) := by
  refine Fc.enter Try.func77 rfl Try.ntmps77 rfl fun X w => ?_
  refine T.rg ?_
  refine L.as rfl rfl ?_
  refine L.nil ?_
  refine T.of_seq ?_
  refine T.rg ?_
  refine L.mv rfl rfl ?_
  refine L.lenS Try.underlying9 rfl rfl ?_
  refine L.mv rfl rfl ?_
  refine L.nil ?_
  refine T.block ?_
  refine T.loop (fun m σ Ω => ∃ k : Nat, k ≤ s.size ∧ m = s.size - k ∧ (s.data.toList.take k).all p = true ∧ σ = [(8, aN k), (7, aN s.size), (1, aR (.func (.func g) #[] #[])), (0, aS s)] ∧ Ω = []) (s.size) _ (⟨0, by omega, by omega, by simp, rfl, rfl⟩) (by repeat constructor) ?_
  rintro m σ Ω ⟨k, hk, rfl, hall, rfl, rfl⟩
  refine T.rg ?_
  refine L.cmp rfl rfl rfl rfl ?_
  refine L.nil ?_
  refine T.of_seq ?_
  refine T.cond rfl (fun h9 => ?_) (fun h9 => ?_)
  · skip
    have hlt : k < s.size := by simpa using h9
    refine T.skip ?_
    refine T.go (fun _ _ h => h) ?_
    refine T.of_seq ?_
    refine T.block ?_
    refine T.rg ?_
    refine L.mv rfl rfl ?_
    refine L.as rfl rfl ?_
    refine L.nil ?_
    refine T.rg ?_
    refine L.mv rfl rfl ?_
    refine L.mv rfl rfl ?_
    refine L.mv rfl rfl ?_
    refine L.ixS k Try.underlying9 rfl rfl rfl hlt rfl ?_
    refine L.callV [] [] [] rfl rfl hg rfl rfl rfl (hp _) ?_
    rintro _ _ ⟨rfl, rfl⟩
    refine L.not rfl rfl ?_
    refine L.nil ?_
    refine T.cond rfl (fun h16 => ?_) (fun h16 => ?_)
    · skip
      refine T.rg ?_
      refine L.as rfl rfl ?_
      refine L.nil ?_
      refine T.ret ?_
      exact G.ret (res1 Try.results77 rfl) ⟨rfl, congrArg aB (allB_no hlt (by simpa using h16)).symm⟩
    · skip
      refine T.skip ?_
      refine T.go (fun _ _ h => h) ?_
      refine T.region ?_
      refine L.ar ((k + 1 : Nat) : Int) rfl rfl rfl (by omega) rfl ?_
      refine L.mv rfl rfl ?_
      refine L.last ?_
      refine G.round (s.size - (k + 1)) _ (by omega) ⟨k + 1, by omega, rfl, all_take_succ hlt hall (by simpa using h16), rfl, rfl⟩ (by repeat constructor)
  · skip
    have hge : s.size ≤ k := by simpa using h9
    refine T.exit ?_
    refine T.go (fun _ _ h => h) ?_
    refine T.rg ?_
    refine L.as rfl rfl ?_
    refine L.nil ?_
    refine T.ret ?_
    exact G.ret (res1 Try.results77 rfl) ⟨rfl, congrArg aB (allB_done hge hall).symm⟩

set_option maxHeartbeats 400000 in
theorem f52 (s : ByteArray) (hs : s.size ≤ 9223372036854775807) : Fc Try.prog 52 [S_ s] [] (Just (aB (keyB s))) := by
  refine Fc.enter Try.func52 rfl Try.ntmps52 rfl fun X w => ?_
  refine T.rg ?_
  refine L.as rfl rfl ?_
  refine L.nil ?_
  refine T.rg ?_
  refine L.mv rfl rfl ?_
  refine L.neS rfl rfl rfl ?_
  refine L.mv rfl rfl ?_
  refine L.caseB 5 rfl (fun h5 => ?_) (fun h5 => ?_)
  · skip
    refine L.on rfl rfl ?_
    refine L.mv rfl rfl ?_
    refine L.on rfl rfl ?_
    refine L.lenS Try.underlying9 rfl rfl ?_
    refine L.on rfl rfl ?_
    refine L.cmp rfl rfl rfl rfl ?_
    refine L.pkT rfl rfl rfl ?_
    refine L.mv rfl rfl ?_
    refine L.caseB 10 rfl (fun h10 => ?_) (fun h10 => ?_)
    · skip
      refine L.on rfl rfl ?_
      refine L.mv rfl rfl ?_
      refine L.on rfl rfl ?_
      refine L.call e77 rfl rfl (f77 s hs 78 plainB e78 f78) ?_
      rintro _ _ ⟨rfl, rfl⟩
      refine L.pkT rfl rfl rfl ?_
      refine L.as rfl rfl ?_
      refine L.nil ?_
      refine T.ret ?_
      exact G.ret (res1 Try.results52 rfl) ⟨rfl, congrArg aB (by rw [emp] at h5; simp_all [keyB] <;> omega)⟩
    · skip
      refine L.off rfl rfl rfl rfl ?_
      refine L.off rfl rfl rfl rfl ?_
      refine L.pkF rfl rfl rfl ?_
      refine L.as rfl rfl ?_
      refine L.nil ?_
      refine T.ret ?_
      exact G.ret (res1 Try.results52 rfl) ⟨rfl, congrArg aB (by rw [emp] at h5; simp_all [keyB] <;> omega)⟩
  · skip
    refine L.off rfl rfl rfl rfl ?_
    refine L.off rfl rfl rfl rfl ?_
    refine L.off rfl rfl rfl rfl ?_
    refine L.pkF rfl rfl rfl ?_
    refine L.mv rfl rfl ?_
    refine L.off rfl rfl rfl rfl ?_
    refine L.off rfl rfl rfl rfl ?_
    refine L.pkF rfl rfl rfl ?_
    refine L.as rfl rfl ?_
    refine L.nil ?_
    refine T.ret ?_
    exact G.ret (res1 Try.results52 rfl) ⟨rfl, congrArg aB (by rw [emp] at h5; simp_all [keyB] <;> omega)⟩

set_option maxHeartbeats 400000 in
theorem f38 (s : ByteArray) (hs : s.size ≤ 9223372036854775807) : Fc Try.prog 38 [S_ s] [] (Just (aB (nameB s))) := by
  refine Fc.enter Try.func38 rfl Try.ntmps38 rfl fun X w => ?_
  refine T.rg ?_
  refine L.as rfl rfl ?_
  refine L.nil ?_
  refine T.rg ?_
  refine L.mv rfl rfl ?_
  refine L.call e52 rfl rfl (f52 s hs) ?_
  rintro _ _ ⟨rfl, rfl⟩
  refine L.mv rfl rfl ?_
  refine L.caseB 5 rfl (fun h5 => ?_) (fun h5 => ?_)
  · skip
    have h0 := keyB_pos h5
    refine L.on rfl rfl ?_
    refine L.mv rfl rfl ?_
    refine L.on rfl rfl ?_
    refine L.ixS 0 Try.underlying9 rfl rfl rfl h0 rfl ?_
    refine L.on rfl rfl ?_
    refine L.call e53 rfl rfl (f53 _) ?_
    rintro _ _ ⟨rfl, rfl⟩
    refine L.pkT rfl rfl rfl ?_
    refine L.as rfl rfl ?_
    refine L.nil ?_
    refine T.ret ?_
    exact G.ret (res1 Try.results38 rfl) ⟨rfl, congrArg aB (by obtain ⟨r, hr⟩ := head_get s h0; simp [nameB, h5, hr])⟩
  · skip
    refine L.off rfl rfl rfl rfl ?_
    refine L.off rfl rfl rfl rfl ?_
    refine L.off rfl rfl rfl rfl ?_
    refine L.pkF rfl rfl rfl ?_
    refine L.as rfl rfl ?_
    refine L.nil ?_
    refine T.ret ?_
    exact G.ret (res1 Try.results38 rfl) ⟨rfl, congrArg aB (by simp [nameB, h5])⟩

set_option maxHeartbeats 400000 in
theorem f54 (s : ByteArray) (hs : s.size ≤ 9223372036854775807) : Fc Try.prog 54 [S_ s] [] (Just (aB (valueB s))) := by
  refine Fc.enter Try.func54 rfl Try.ntmps54 rfl fun X w => ?_
  refine T.rg ?_
  refine L.as rfl rfl ?_
  refine L.nil ?_
  refine T.rg ?_
  refine L.mv rfl rfl ?_
  refine L.lenS Try.underlying9 rfl rfl ?_
  refine L.cmp rfl rfl rfl rfl ?_
  refine L.mv rfl rfl ?_
  refine L.caseB 6 rfl (fun h6 => ?_) (fun h6 => ?_)
  · skip
    refine L.on rfl rfl ?_
    refine L.mv rfl rfl ?_
    refine L.on rfl rfl ?_
    refine L.call e77 rfl rfl (f77 s hs 79 visibleB e79 f79) ?_
    rintro _ _ ⟨rfl, rfl⟩
    refine L.pkT rfl rfl rfl ?_
    refine L.as rfl rfl ?_
    refine L.nil ?_
    refine T.ret ?_
    exact G.ret (res1 Try.results54 rfl) ⟨rfl, congrArg aB (by simp_all [valueB] <;> omega)⟩
  · skip
    refine L.off rfl rfl rfl rfl ?_
    refine L.off rfl rfl rfl rfl ?_
    refine L.pkF rfl rfl rfl ?_
    refine L.as rfl rfl ?_
    refine L.nil ?_
    refine T.ret ?_
    exact G.ret (res1 Try.results54 rfl) ⟨rfl, congrArg aB (by simp_all [valueB] <;> omega)⟩

set_option maxHeartbeats 400000 in
theorem f80 (s : ByteArray) (hs : s.size ≤ 9223372036854775807) : Fc Try.prog 80 [S_ s] [] (Just (aB (keyB s))) := by
  refine Fc.enter Try.func80 rfl Try.ntmps80 rfl fun X w => ?_
  refine T.rg ?_
  refine L.as rfl rfl ?_
  refine L.nil ?_
  refine T.of_seq ?_
  refine T.rg ?_
  refine L.as rfl rfl ?_
  refine L.nil ?_
  refine T.block ?_
  refine T.loop (fun m σ Ω => ∃ k : Nat, k ≤ s.size ∧ m = s.size - k ∧ (s.data.toList.take k).all plainB = true ∧ σ = [(3, aN k), (0, aS s)] ∧ Ω = []) (s.size) _ (⟨0, by omega, by omega, by simp, rfl, rfl⟩) (by repeat constructor) ?_
  rintro m σ Ω ⟨k, hk, rfl, hall, rfl, rfl⟩
  refine T.of_seq ?_
  refine T.rg ?_
  refine L.mv rfl rfl ?_
  refine L.mv rfl rfl ?_
  refine L.lenS Try.underlying9 rfl rfl ?_
  refine L.cmp rfl rfl rfl rfl ?_
  refine L.nil ?_
  refine T.cond rfl (fun h7 => ?_) (fun h7 => ?_)
  · skip
    have hlt : k < s.size := by simpa using h7
    refine T.skip ?_
    refine T.go (fun _ _ h => h) ?_
    refine T.of_seq ?_
    refine T.block ?_
    refine T.rg ?_
    refine L.mv rfl rfl ?_
    refine L.mv rfl rfl ?_
    refine L.ixS k Try.underlying9 rfl rfl rfl hlt rfl ?_
    refine L.call e92 rfl rfl (f92 _) ?_
    rintro _ _ ⟨rfl, rfl⟩
    refine L.not rfl rfl ?_
    refine L.nil ?_
    refine T.cond rfl (fun h14 => ?_) (fun h14 => ?_)
    · skip
      refine T.rg ?_
      refine L.as rfl rfl ?_
      refine L.nil ?_
      refine T.ret ?_
      exact G.ret (res1 Try.results80 rfl) ⟨rfl, congrArg aB (by have := allB_no (p := plainB) hlt (by simpa using h14); simp [keyB, this])⟩
    · skip
      refine T.skip ?_
      refine T.go (fun _ _ h => h) ?_
      refine T.region ?_
      refine L.mv rfl rfl ?_
      refine L.ar ((k + 1 : Nat) : Int) rfl rfl rfl (by omega) rfl ?_
      refine L.as rfl rfl ?_
      refine L.last ?_
      refine G.round (s.size - (k + 1)) _ (by omega) ⟨k + 1, by omega, rfl, all_take_succ hlt hall (by simpa using h14), rfl, rfl⟩ (by repeat constructor)
  · skip
    have hge : s.size ≤ k := by simpa using h7
    have hall2 := allB_done hge hall
    refine T.exit ?_
    refine T.go (fun _ _ h => h) ?_
    refine T.rg ?_
    refine L.mv rfl rfl ?_
    refine L.lenS Try.underlying9 rfl rfl ?_
    refine L.cmp rfl rfl rfl rfl ?_
    refine L.mv rfl rfl ?_
    refine L.caseB 18 rfl (fun h18 => ?_) (fun h18 => ?_)
    · skip
      refine L.on rfl rfl ?_
      refine L.mv rfl rfl ?_
      refine L.on rfl rfl ?_
      refine L.lenS Try.underlying9 rfl rfl ?_
      refine L.on rfl rfl ?_
      refine L.cmp rfl rfl rfl rfl ?_
      refine L.pkT rfl rfl rfl ?_
      refine L.as rfl rfl ?_
      refine L.nil ?_
      refine T.ret ?_
      exact G.ret (res1 Try.results80 rfl) ⟨rfl, congrArg aB (by simp at h18; have h0 : s.size ≠ 0 := (by omega); have h1 : s.size ≠ 0 := h0; simp [keyB, hall2, h0]; omega)⟩
    · skip
      refine L.off rfl rfl rfl rfl ?_
      refine L.off rfl rfl rfl rfl ?_
      refine L.off rfl rfl rfl rfl ?_
      refine L.pkF rfl rfl rfl ?_
      refine L.as rfl rfl ?_
      refine L.nil ?_
      refine T.ret ?_
      exact G.ret (res1 Try.results80 rfl) ⟨rfl, congrArg aB (by simp at h18; have h0 : s.size = 0 := (by omega); simp [keyB, h0])⟩

set_option maxHeartbeats 400000 in
theorem f57 (s : ByteArray) (hs : s.size ≤ 9223372036854775807) : Fc Try.prog 57 [S_ s] [] (Just (aB (nameB s))) := by
  refine Fc.enter Try.func57 rfl Try.ntmps57 rfl fun X w => ?_
  refine T.rg ?_
  refine L.as rfl rfl ?_
  refine L.nil ?_
  refine T.rg ?_
  refine L.mv rfl rfl ?_
  refine L.call e80 rfl rfl (f80 s hs) ?_
  rintro _ _ ⟨rfl, rfl⟩
  refine L.mv rfl rfl ?_
  refine L.caseB 5 rfl (fun h5 => ?_) (fun h5 => ?_)
  · skip
    have h0 := keyB_pos h5
    refine L.on rfl rfl ?_
    refine L.mv rfl rfl ?_
    refine L.on rfl rfl ?_
    refine L.ixS 0 Try.underlying9 rfl rfl rfl h0 rfl ?_
    refine L.on rfl rfl ?_
    refine L.cmp rfl rfl rfl rfl ?_
    refine L.pkT rfl rfl rfl ?_
    refine L.as rfl rfl ?_
    refine L.nil ?_
    refine T.ret ?_
    exact G.ret (res1 Try.results57 rfl) ⟨rfl, congrArg aB (by rw [nameB, h5, nameB_ref s h5 h0]; rfl)⟩
  · skip
    refine L.off rfl rfl rfl rfl ?_
    refine L.off rfl rfl rfl rfl ?_
    refine L.off rfl rfl rfl rfl ?_
    refine L.pkF rfl rfl rfl ?_
    refine L.as rfl rfl ?_
    refine L.nil ?_
    refine T.ret ?_
    exact G.ret (res1 Try.results57 rfl) ⟨rfl, congrArg aB (by simp [nameB, h5])⟩

set_option maxHeartbeats 1000000 in
theorem f41 (s : ByteArray) (hs : s.size ≤ 9223372036854775807) : Fc Try.prog 41 [S_ s] [] (Just (aB (valueB s))) := by
  refine Fc.enter Try.func41 rfl Try.ntmps41 rfl fun X w => ?_
  refine T.rg ?_
  refine L.as rfl rfl ?_
  refine L.nil ?_
  refine T.of_seq ?_
  refine T.rg ?_
  refine L.as rfl rfl ?_
  refine L.nil ?_
  refine T.block ?_
  refine T.loop (fun m σ Ω => ∃ k : Nat, k ≤ s.size ∧ m = s.size - k ∧ (s.data.toList.take k).all visibleB = true ∧ σ = [(3, aN k), (0, aS s)] ∧ Ω = []) (s.size) _ (⟨0, by omega, by omega, by simp, rfl, rfl⟩) (by repeat constructor) ?_
  rintro m σ Ω ⟨k, hk, rfl, hall, rfl, rfl⟩
  refine T.of_seq ?_
  refine T.rg ?_
  refine L.mv rfl rfl ?_
  refine L.mv rfl rfl ?_
  refine L.lenS Try.underlying9 rfl rfl ?_
  refine L.cmp rfl rfl rfl rfl ?_
  refine L.nil ?_
  refine T.cond rfl (fun h7 => ?_) (fun h7 => ?_)
  · skip
    have hlt : k < s.size := by simpa using h7
    refine T.skip ?_
    refine T.go (fun _ _ h => h) ?_
    refine T.of_seq ?_
    refine T.block ?_
    refine T.rg ?_
    refine L.mv rfl rfl ?_
    refine L.mv rfl rfl ?_
    refine L.ixS k Try.underlying9 rfl rfl rfl hlt rfl ?_
    refine L.cmp rfl rfl rfl rfl ?_
    refine L.mv rfl rfl ?_
    refine L.caseB 14 rfl (fun h14 => ?_) (fun h14 => ?_)
    · skip
      refine L.off rfl rfl rfl rfl ?_
      refine L.off rfl rfl rfl rfl ?_
      refine L.off rfl rfl rfl rfl ?_
      refine L.off rfl rfl rfl rfl ?_
      refine L.pkT rfl rfl rfl ?_
      refine L.mv rfl rfl ?_
      refine L.off rfl rfl rfl rfl ?_
      refine L.off rfl rfl rfl rfl ?_
      refine L.off rfl rfl rfl rfl ?_
      refine L.off rfl rfl rfl rfl ?_
      refine L.pkT rfl rfl rfl ?_
      refine L.mv rfl rfl ?_
      refine L.off rfl rfl rfl rfl ?_
      refine L.off rfl rfl rfl rfl ?_
      refine L.off rfl rfl rfl rfl ?_
      refine L.off rfl rfl rfl rfl ?_
      refine L.pkT rfl rfl rfl ?_
      refine L.mv rfl rfl ?_
      refine L.off rfl rfl rfl rfl ?_
      refine L.off rfl rfl rfl rfl ?_
      refine L.off rfl rfl rfl rfl ?_
      refine L.off rfl rfl rfl rfl ?_
      refine L.pkT rfl rfl rfl ?_
      refine L.nil ?_
      refine T.condT rfl ?_
      refine T.rg ?_
      refine L.as rfl rfl ?_
      refine L.nil ?_
      refine T.ret ?_
      exact G.ret (res1 Try.results41 rfl) ⟨rfl, congrArg aB (by have hv : visibleB s[k] = false := (by unfold visibleB; simp_all <;> omega); have hw := allB_no (p := visibleB) hlt hv; simp [valueB, hw])⟩
    · skip
      refine L.on rfl rfl ?_
      refine L.mv rfl rfl ?_
      refine L.on rfl rfl ?_
      refine L.mv rfl rfl ?_
      refine L.on rfl rfl ?_
      refine L.ixS k Try.underlying9 rfl rfl rfl hlt rfl ?_
      refine L.on rfl rfl ?_
      refine L.cmp rfl rfl rfl rfl ?_
      refine L.pkF rfl rfl rfl ?_
      refine L.mv rfl rfl ?_
      refine L.caseB 20 rfl (fun h20 => ?_) (fun h20 => ?_)
      · skip
        refine L.off rfl rfl rfl rfl ?_
        refine L.off rfl rfl rfl rfl ?_
        refine L.off rfl rfl rfl rfl ?_
        refine L.off rfl rfl rfl rfl ?_
        refine L.pkT rfl rfl rfl ?_
        refine L.mv rfl rfl ?_
        refine L.off rfl rfl rfl rfl ?_
        refine L.off rfl rfl rfl rfl ?_
        refine L.off rfl rfl rfl rfl ?_
        refine L.off rfl rfl rfl rfl ?_
        refine L.pkT rfl rfl rfl ?_
        refine L.mv rfl rfl ?_
        refine L.off rfl rfl rfl rfl ?_
        refine L.off rfl rfl rfl rfl ?_
        refine L.off rfl rfl rfl rfl ?_
        refine L.off rfl rfl rfl rfl ?_
        refine L.pkT rfl rfl rfl ?_
        refine L.nil ?_
        refine T.condT rfl ?_
        refine T.rg ?_
        refine L.as rfl rfl ?_
        refine L.nil ?_
        refine T.ret ?_
        exact G.ret (res1 Try.results41 rfl) ⟨rfl, congrArg aB (by have hv : visibleB s[k] = false := (by unfold visibleB; simp_all <;> omega); have hw := allB_no (p := visibleB) hlt hv; simp [valueB, hw])⟩
      · skip
        refine L.on rfl rfl ?_
        refine L.mv rfl rfl ?_
        refine L.on rfl rfl ?_
        refine L.mv rfl rfl ?_
        refine L.on rfl rfl ?_
        refine L.ixS k Try.underlying9 rfl rfl rfl hlt rfl ?_
        refine L.on rfl rfl ?_
        refine L.cmp rfl rfl rfl rfl ?_
        refine L.pkF rfl rfl rfl ?_
        refine L.mv rfl rfl ?_
        refine L.caseB 26 rfl (fun h26 => ?_) (fun h26 => ?_)
        · skip
          refine L.off rfl rfl rfl rfl ?_
          refine L.off rfl rfl rfl rfl ?_
          refine L.off rfl rfl rfl rfl ?_
          refine L.off rfl rfl rfl rfl ?_
          refine L.pkT rfl rfl rfl ?_
          refine L.mv rfl rfl ?_
          refine L.off rfl rfl rfl rfl ?_
          refine L.off rfl rfl rfl rfl ?_
          refine L.off rfl rfl rfl rfl ?_
          refine L.off rfl rfl rfl rfl ?_
          refine L.pkT rfl rfl rfl ?_
          refine L.nil ?_
          refine T.condT rfl ?_
          refine T.rg ?_
          refine L.as rfl rfl ?_
          refine L.nil ?_
          refine T.ret ?_
          exact G.ret (res1 Try.results41 rfl) ⟨rfl, congrArg aB (by have hv : visibleB s[k] = false := (by unfold visibleB; simp_all <;> omega); have hw := allB_no (p := visibleB) hlt hv; simp [valueB, hw])⟩
        · skip
          refine L.on rfl rfl ?_
          refine L.mv rfl rfl ?_
          refine L.on rfl rfl ?_
          refine L.mv rfl rfl ?_
          refine L.on rfl rfl ?_
          refine L.ixS k Try.underlying9 rfl rfl rfl hlt rfl ?_
          refine L.on rfl rfl ?_
          refine L.cmp rfl rfl rfl rfl ?_
          refine L.pkF rfl rfl rfl ?_
          refine L.mv rfl rfl ?_
          refine L.caseB 32 rfl (fun h32 => ?_) (fun h32 => ?_)
          · skip
            refine L.off rfl rfl rfl rfl ?_
            refine L.off rfl rfl rfl rfl ?_
            refine L.off rfl rfl rfl rfl ?_
            refine L.off rfl rfl rfl rfl ?_
            refine L.pkT rfl rfl rfl ?_
            refine L.nil ?_
            refine T.condT rfl ?_
            refine T.rg ?_
            refine L.as rfl rfl ?_
            refine L.nil ?_
            refine T.ret ?_
            exact G.ret (res1 Try.results41 rfl) ⟨rfl, congrArg aB (by have hv : visibleB s[k] = false := (by unfold visibleB; simp_all <;> omega); have hw := allB_no (p := visibleB) hlt hv; simp [valueB, hw])⟩
          · skip
            refine L.on rfl rfl ?_
            refine L.mv rfl rfl ?_
            refine L.on rfl rfl ?_
            refine L.mv rfl rfl ?_
            refine L.on rfl rfl ?_
            refine L.ixS k Try.underlying9 rfl rfl rfl hlt rfl ?_
            refine L.on rfl rfl ?_
            refine L.cmp rfl rfl rfl rfl ?_
            refine L.pkF rfl rfl rfl ?_
            refine L.nil ?_
            refine T.cond rfl (fun h37 => ?_) (fun h37 => ?_)
            · skip
              refine T.rg ?_
              refine L.as rfl rfl ?_
              refine L.nil ?_
              refine T.ret ?_
              exact G.ret (res1 Try.results41 rfl) ⟨rfl, congrArg aB (by have hv : visibleB s[k] = false := (by unfold visibleB; simp_all <;> omega); have hw := allB_no (p := visibleB) hlt hv; simp [valueB, hw])⟩
            · skip
              refine T.skip ?_
              refine T.go (fun _ _ h => h) ?_
              refine T.region ?_
              refine L.mv rfl rfl ?_
              refine L.ar ((k + 1 : Nat) : Int) rfl rfl rfl (by omega) rfl ?_
              refine L.as rfl rfl ?_
              refine L.last ?_
              refine G.round (s.size - (k + 1)) _ (by omega) ⟨k + 1, by omega, rfl, all_take_succ hlt hall ?_, rfl, rfl⟩ (by repeat constructor)
              unfold visibleB
              simp only [decide_eq_false_iff_not, decide_eq_true_eq, beq_eq_false_iff_ne, beq_iff_eq, Int.not_lt] at *
              simp only [Bool.and_eq_true, decide_eq_true_eq, bne_iff_ne]
              refine ⟨⟨⟨⟨?_, ?_⟩, ?_⟩, ?_⟩, ?_⟩ <;> omega
  · skip
    have hge : s.size ≤ k := by simpa using h7
    have hall2 := allB_done hge hall
    refine T.exit ?_
    refine T.go (fun _ _ h => h) ?_
    refine T.rg ?_
    refine L.mv rfl rfl ?_
    refine L.lenS Try.underlying9 rfl rfl ?_
    refine L.cmp rfl rfl rfl rfl ?_
    refine L.as rfl rfl ?_
    refine L.nil ?_
    refine T.ret ?_
    exact G.ret (res1 Try.results41 rfl) ⟨rfl, congrArg aB (by simp [valueB, hall2]; omega)⟩

set_option maxHeartbeats 400000 in
theorem f8 (s : ByteArray) (n : Nat) (hn : n ≤ 9223372036854775807) : Fc Try.prog 8 [S_ s, N_ (n : Int)] [] (Just (aS (s.extract 0 n))) := by
  refine Fc.enter Try.func8 rfl Try.ntmps8 rfl fun X w => ?_
  refine T.rg ?_
  refine L.as rfl rfl ?_
  refine L.nil ?_
  refine T.of_seq ?_
  refine T.rg ?_
  refine L.mv rfl rfl ?_
  refine L.lenS Try.underlying9 rfl rfl ?_
  refine L.mv rfl rfl ?_
  refine L.cmp rfl rfl rfl rfl ?_
  refine L.nil ?_
  refine T.cond rfl (fun h8 => ?_) (fun h8 => ?_)
  · skip
    have hlt : n < s.size := by simpa using h8
    refine T.rg ?_
    refine L.mv rfl rfl ?_
    refine L.mv rfl rfl ?_
    refine L.slS 0 n Try.underlying9 rfl rfl ⟨_, rfl⟩ ⟨by omega, by omega⟩ rfl ?_
    refine L.as rfl rfl ?_
    refine L.nil ?_
    refine T.ret ?_
    exact G.ret (res1 Try.results8 rfl) ⟨rfl, rfl⟩
  · skip
    have hge : s.size ≤ n := by simpa using h8
    refine T.skip ?_
    refine T.go (fun _ _ h => h) ?_
    refine T.rg ?_
    refine L.mv rfl rfl ?_
    refine L.as rfl rfl ?_
    refine L.nil ?_
    refine T.ret ?_
    exact G.ret (res1 Try.results8 rfl) ⟨rfl, congrArg aS (ext_all s n hge).symm⟩

set_option maxHeartbeats 400000 in
theorem f25 (s : ByteArray) (hs : s.size ≤ 9223372036854775806) (a : Nat) (ha : a ≤ s.size) : Fc Try.prog 25 [S_ s, N_ (a : Int)] [] (Just (aN (blanksN s a : Nat))) := by
  refine Fc.enter Try.func25 rfl Try.ntmps25 rfl fun X w => ?_
  refine T.rg ?_
  refine L.as rfl rfl ?_
  refine L.nil ?_
  refine T.of_seq ?_
  refine T.block ?_
  refine T.loop (fun m σ Ω => ∃ k : Nat, k ≤ s.size ∧ m = s.size - k ∧ blanksN s k = blanksN s a ∧ σ = [(1, aN k), (0, aS s)] ∧ Ω = []) (s.size - a) _ (⟨a, ha, rfl, rfl, rfl, rfl⟩) (by repeat constructor) ?_
  rintro m σ Ω ⟨k, hk, rfl, hb, rfl, rfl⟩
  refine T.of_seq ?_
  refine T.rg ?_
  refine L.mv rfl rfl ?_
  refine L.mv rfl rfl ?_
  refine L.lenS Try.underlying9 rfl rfl ?_
  refine L.cmp rfl rfl rfl rfl ?_
  refine L.mv rfl rfl ?_
  refine L.caseB 9 rfl (fun h9 => ?_) (fun h9 => ?_)
  · skip
    have hlt : k < s.size := by simpa using h9
    refine L.on rfl rfl ?_
    refine L.mv rfl rfl ?_
    refine L.on rfl rfl ?_
    refine L.mv rfl rfl ?_
    refine L.on rfl rfl ?_
    refine L.ixS k Try.underlying9 rfl rfl rfl hlt rfl ?_
    refine L.on rfl rfl ?_
    refine L.cmp rfl rfl rfl rfl ?_
    refine L.pkT rfl rfl rfl ?_
    refine L.nil ?_
    refine T.cond rfl (fun h14 => ?_) (fun h14 => ?_)
    · skip
      refine T.skip ?_
      refine T.go (fun _ _ h => h) ?_
      refine T.block ?_
      refine T.region ?_
      refine L.mv rfl rfl ?_
      refine L.ar ((k + 1 : Nat) : Int) rfl rfl rfl (by omega) rfl ?_
      refine L.as rfl rfl ?_
      refine L.last ?_
      refine G.round (s.size - (k + 1)) _ (by omega) ⟨k + 1, by omega, rfl, by rw [← hb, blanksN_yes hlt (by simpa using h14)], rfl, rfl⟩ (by repeat constructor)
    · skip
      refine T.exit ?_
      refine T.go (fun _ _ h => h) ?_
      refine T.rg ?_
      refine L.mv rfl rfl ?_
      refine L.as rfl rfl ?_
      refine L.nil ?_
      refine T.ret ?_
      exact G.ret (res1 Try.results25 rfl) ⟨rfl, congrArg (fun n : Nat => aN n) (by rw [← hb]; exact (blanksN_no hlt (by simpa using h14)).symm)⟩
  · skip
    have hge : s.size ≤ k := by simpa using h9
    refine L.off rfl rfl rfl rfl ?_
    refine L.off rfl rfl rfl rfl ?_
    refine L.off rfl rfl rfl rfl ?_
    refine L.off rfl rfl rfl rfl ?_
    refine L.pkF rfl rfl rfl ?_
    refine L.nil ?_
    refine T.condF rfl ?_
    refine T.exit ?_
    refine T.go (fun _ _ h => h) ?_
    refine T.rg ?_
    refine L.mv rfl rfl ?_
    refine L.as rfl rfl ?_
    refine L.nil ?_
    refine T.ret ?_
    exact G.ret (res1 Try.results25 rfl) ⟨rfl, congrArg (fun n : Nat => aN n) (by rw [← hb]; exact (blanksN_end hge).symm)⟩
end Go.Proofs.Ytlibfaghiogekaa
