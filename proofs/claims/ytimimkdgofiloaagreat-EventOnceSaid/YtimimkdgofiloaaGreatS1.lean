/- The leaves: bytes and names, in the program and in the document's answer. Printed by gen.py. -/
import Derived.Test.YtimimkdgofiloaaGreatTy
import Derived.Test.YtimimkdgofiloaaGreatDa
namespace Go.Proofs.YtimimkdgofiloaaGreat
open Go Go.Q
set_option maxHeartbeats 400000 in
theorem f83 (c : UInt8) : Fc Tryz.prog 83 [B8 c] [] (Just (aB (letterB c))) := by
  refine Fc.enter Tryz.func83 rfl Tryz.ntmps83 rfl fun X w => ?_
  refine T.rg ?_
  refine L.as rfl rfl ?_
  refine L.nil ?_
  refine T.rg ?_
  refine L.mv rfl rfl ?_
  refine L.cmp rfl rfl rfl rfl ?_
  refine L.mv rfl rfl ?_
  refine L.caseB 5 rfl (fun h5 => ?_) (fun h5 => ?_)
  · skip
    refine L.on rfl rfl ?_
    refine L.mv rfl rfl ?_
    refine L.on rfl rfl ?_
    refine L.cmp rfl rfl rfl rfl ?_
    refine L.pkT rfl rfl rfl ?_
    refine L.as rfl rfl ?_
    refine L.nil ?_
    refine T.ret ?_
    exact G.ret (res1 Tryz.results83 rfl) ⟨rfl, congrArg aB (by simp_all [letterB] <;> omega)⟩
  · skip
    refine L.off rfl rfl rfl rfl ?_
    refine L.off rfl rfl rfl rfl ?_
    refine L.pkF rfl rfl rfl ?_
    refine L.as rfl rfl ?_
    refine L.nil ?_
    refine T.ret ?_
    exact G.ret (res1 Tryz.results83 rfl) ⟨rfl, congrArg aB (by simp_all [letterB] <;> omega)⟩

set_option maxHeartbeats 400000 in
theorem f112 (c : UInt8) : Fc Tryz.prog 112 [B8 c] [] (Just (aB (digitB c))) := by
  refine Fc.enter Tryz.func112 rfl Tryz.ntmps112 rfl fun X w => ?_
  refine T.rg ?_
  refine L.as rfl rfl ?_
  refine L.nil ?_
  refine T.rg ?_
  refine L.mv rfl rfl ?_
  refine L.cmp rfl rfl rfl rfl ?_
  refine L.mv rfl rfl ?_
  refine L.caseB 5 rfl (fun h5 => ?_) (fun h5 => ?_)
  · skip
    refine L.on rfl rfl ?_
    refine L.mv rfl rfl ?_
    refine L.on rfl rfl ?_
    refine L.cmp rfl rfl rfl rfl ?_
    refine L.pkT rfl rfl rfl ?_
    refine L.as rfl rfl ?_
    refine L.nil ?_
    refine T.ret ?_
    exact G.ret (res1 Tryz.results112 rfl) ⟨rfl, congrArg aB (by simp_all [digitB] <;> omega)⟩
  · skip
    refine L.off rfl rfl rfl rfl ?_
    refine L.off rfl rfl rfl rfl ?_
    refine L.pkF rfl rfl rfl ?_
    refine L.as rfl rfl ?_
    refine L.nil ?_
    refine T.ret ?_
    exact G.ret (res1 Tryz.results112 rfl) ⟨rfl, congrArg aB (by simp_all [digitB] <;> omega)⟩

set_option maxHeartbeats 400000 in
theorem f101 (c : UInt8) : Fc Tryz.prog 101 [B8 c] [] (Just (aB (plainB c))) := by
  refine Fc.enter Tryz.func101 rfl Tryz.ntmps101 rfl fun X w => ?_
  refine T.rg ?_
  refine L.as rfl rfl ?_
  refine L.nil ?_
  refine T.rg ?_
  refine L.mv rfl rfl ?_
  refine L.call e83 rfl rfl (f83 _) ?_
  rintro _ _ ⟨rfl, rfl⟩
  refine L.mv rfl rfl ?_
  refine L.caseB 5 rfl (fun h5 => ?_) (fun h5 => ?_)
  · skip
    refine L.off rfl rfl rfl rfl ?_
    refine L.off rfl rfl rfl rfl ?_
    refine L.pkT rfl rfl rfl ?_
    refine L.mv rfl rfl ?_
    refine L.off rfl rfl rfl rfl ?_
    refine L.off rfl rfl rfl rfl ?_
    refine L.pkT rfl rfl rfl ?_
    refine L.as rfl rfl ?_
    refine L.nil ?_
    refine T.ret ?_
    exact G.ret (res1 Tryz.results101 rfl) ⟨rfl, congrArg aB (by simp_all [plainB] <;> omega)⟩
  · skip
    refine L.on rfl rfl ?_
    refine L.mv rfl rfl ?_
    refine L.on rfl rfl ?_
    refine L.call e112 rfl rfl (f112 _) ?_
    rintro _ _ ⟨rfl, rfl⟩
    refine L.pkF rfl rfl rfl ?_
    refine L.mv rfl rfl ?_
    refine L.caseB 9 rfl (fun h9 => ?_) (fun h9 => ?_)
    · skip
      refine L.off rfl rfl rfl rfl ?_
      refine L.off rfl rfl rfl rfl ?_
      refine L.pkT rfl rfl rfl ?_
      refine L.as rfl rfl ?_
      refine L.nil ?_
      refine T.ret ?_
      exact G.ret (res1 Tryz.results101 rfl) ⟨rfl, congrArg aB (by simp_all [plainB] <;> omega)⟩
    · skip
      refine L.on rfl rfl ?_
      refine L.mv rfl rfl ?_
      refine L.on rfl rfl ?_
      refine L.cmp rfl rfl rfl rfl ?_
      refine L.pkF rfl rfl rfl ?_
      refine L.as rfl rfl ?_
      refine L.nil ?_
      refine T.ret ?_
      exact G.ret (res1 Tryz.results101 rfl) ⟨rfl, congrArg aB (by simp_all [plainB] <;> omega)⟩

set_option maxHeartbeats 400000 in
theorem f102 (c : UInt8) : Fc Tryz.prog 102 [B8 c] [] (Just (aB (visibleB c))) := by
  refine Fc.enter Tryz.func102 rfl Tryz.ntmps102 rfl fun X w => ?_
  refine T.rg ?_
  refine L.as rfl rfl ?_
  refine L.nil ?_
  refine T.rg ?_
  refine L.mv rfl rfl ?_
  refine L.cmp rfl rfl rfl rfl ?_
  refine L.mv rfl rfl ?_
  refine L.caseB 5 rfl (fun h5 => ?_) (fun h5 => ?_)
  · skip
    refine L.on rfl rfl ?_
    refine L.mv rfl rfl ?_
    refine L.on rfl rfl ?_
    refine L.cmp rfl rfl rfl rfl ?_
    refine L.pkT rfl rfl rfl ?_
    refine L.mv rfl rfl ?_
    refine L.caseB 9 rfl (fun h9 => ?_) (fun h9 => ?_)
    · skip
      refine L.on rfl rfl ?_
      refine L.mv rfl rfl ?_
      refine L.on rfl rfl ?_
      refine L.cmp rfl rfl rfl rfl ?_
      refine L.pkT rfl rfl rfl ?_
      refine L.mv rfl rfl ?_
      refine L.caseB 13 rfl (fun h13 => ?_) (fun h13 => ?_)
      · skip
        refine L.on rfl rfl ?_
        refine L.mv rfl rfl ?_
        refine L.on rfl rfl ?_
        refine L.cmp rfl rfl rfl rfl ?_
        refine L.pkT rfl rfl rfl ?_
        refine L.mv rfl rfl ?_
        refine L.caseB 17 rfl (fun h17 => ?_) (fun h17 => ?_)
        · skip
          refine L.on rfl rfl ?_
          refine L.mv rfl rfl ?_
          refine L.on rfl rfl ?_
          refine L.cmp rfl rfl rfl rfl ?_
          refine L.pkT rfl rfl rfl ?_
          refine L.as rfl rfl ?_
          refine L.nil ?_
          refine T.ret ?_
          exact G.ret (res1 Tryz.results102 rfl) ⟨rfl, congrArg aB (by simp_all [visibleB] <;> omega)⟩
        · skip
          refine L.off rfl rfl rfl rfl ?_
          refine L.off rfl rfl rfl rfl ?_
          refine L.pkF rfl rfl rfl ?_
          refine L.as rfl rfl ?_
          refine L.nil ?_
          refine T.ret ?_
          exact G.ret (res1 Tryz.results102 rfl) ⟨rfl, congrArg aB (by simp_all [visibleB] <;> omega)⟩
      · skip
        refine L.off rfl rfl rfl rfl ?_
        refine L.off rfl rfl rfl rfl ?_
        refine L.pkF rfl rfl rfl ?_
        refine L.mv rfl rfl ?_
        refine L.off rfl rfl rfl rfl ?_
        refine L.off rfl rfl rfl rfl ?_
        refine L.pkF rfl rfl rfl ?_
        refine L.as rfl rfl ?_
        refine L.nil ?_
        refine T.ret ?_
        exact G.ret (res1 Tryz.results102 rfl) ⟨rfl, congrArg aB (by simp_all [visibleB] <;> omega)⟩
    · skip
      refine L.off rfl rfl rfl rfl ?_
      refine L.off rfl rfl rfl rfl ?_
      refine L.pkF rfl rfl rfl ?_
      refine L.mv rfl rfl ?_
      refine L.off rfl rfl rfl rfl ?_
      refine L.off rfl rfl rfl rfl ?_
      refine L.pkF rfl rfl rfl ?_
      refine L.mv rfl rfl ?_
      refine L.off rfl rfl rfl rfl ?_
      refine L.off rfl rfl rfl rfl ?_
      refine L.pkF rfl rfl rfl ?_
      refine L.as rfl rfl ?_
      refine L.nil ?_
      refine T.ret ?_
      exact G.ret (res1 Tryz.results102 rfl) ⟨rfl, congrArg aB (by simp_all [visibleB] <;> omega)⟩
  · skip
    refine L.off rfl rfl rfl rfl ?_
    refine L.off rfl rfl rfl rfl ?_
    refine L.pkF rfl rfl rfl ?_
    refine L.mv rfl rfl ?_
    refine L.off rfl rfl rfl rfl ?_
    refine L.off rfl rfl rfl rfl ?_
    refine L.pkF rfl rfl rfl ?_
    refine L.mv rfl rfl ?_
    refine L.off rfl rfl rfl rfl ?_
    refine L.off rfl rfl rfl rfl ?_
    refine L.pkF rfl rfl rfl ?_
    refine L.mv rfl rfl ?_
    refine L.off rfl rfl rfl rfl ?_
    refine L.off rfl rfl rfl rfl ?_
    refine L.pkF rfl rfl rfl ?_
    refine L.as rfl rfl ?_
    refine L.nil ?_
    refine T.ret ?_
    exact G.ret (res1 Tryz.results102 rfl) ⟨rfl, congrArg aB (by simp_all [visibleB] <;> omega)⟩

set_option maxHeartbeats 400000 in
theorem f86 (c : UInt8) : Fc Tryz.prog 86 [B8 c] [] (Just (aB (stopB c))) := by
  refine Fc.enter Tryz.func86 rfl Tryz.ntmps86 rfl fun X w => ?_
  refine T.rg ?_
  refine L.as rfl rfl ?_
  refine L.nil ?_
  refine T.rg ?_
  refine L.mv rfl rfl ?_
  refine L.cmp rfl rfl rfl rfl ?_
  refine L.mv rfl rfl ?_
  refine L.caseB 5 rfl (fun h5 => ?_) (fun h5 => ?_)
  · skip
    refine L.off rfl rfl rfl rfl ?_
    refine L.off rfl rfl rfl rfl ?_
    refine L.pkT rfl rfl rfl ?_
    refine L.mv rfl rfl ?_
    refine L.off rfl rfl rfl rfl ?_
    refine L.off rfl rfl rfl rfl ?_
    refine L.pkT rfl rfl rfl ?_
    refine L.mv rfl rfl ?_
    refine L.off rfl rfl rfl rfl ?_
    refine L.off rfl rfl rfl rfl ?_
    refine L.pkT rfl rfl rfl ?_
    refine L.mv rfl rfl ?_
    refine L.off rfl rfl rfl rfl ?_
    refine L.off rfl rfl rfl rfl ?_
    refine L.pkT rfl rfl rfl ?_
    refine L.mv rfl rfl ?_
    refine L.off rfl rfl rfl rfl ?_
    refine L.off rfl rfl rfl rfl ?_
    refine L.pkT rfl rfl rfl ?_
    refine L.as rfl rfl ?_
    refine L.nil ?_
    refine T.ret ?_
    exact G.ret (res1 Tryz.results86 rfl) ⟨rfl, congrArg aB (by simp_all [stopB] <;> omega)⟩
  · skip
    refine L.on rfl rfl ?_
    refine L.mv rfl rfl ?_
    refine L.on rfl rfl ?_
    refine L.cmp rfl rfl rfl rfl ?_
    refine L.pkF rfl rfl rfl ?_
    refine L.mv rfl rfl ?_
    refine L.caseB 9 rfl (fun h9 => ?_) (fun h9 => ?_)
    · skip
      refine L.off rfl rfl rfl rfl ?_
      refine L.off rfl rfl rfl rfl ?_
      refine L.pkT rfl rfl rfl ?_
      refine L.mv rfl rfl ?_
      refine L.off rfl rfl rfl rfl ?_
      refine L.off rfl rfl rfl rfl ?_
      refine L.pkT rfl rfl rfl ?_
      refine L.mv rfl rfl ?_
      refine L.off rfl rfl rfl rfl ?_
      refine L.off rfl rfl rfl rfl ?_
      refine L.pkT rfl rfl rfl ?_
      refine L.mv rfl rfl ?_
      refine L.off rfl rfl rfl rfl ?_
      refine L.off rfl rfl rfl rfl ?_
      refine L.pkT rfl rfl rfl ?_
      refine L.as rfl rfl ?_
      refine L.nil ?_
      refine T.ret ?_
      exact G.ret (res1 Tryz.results86 rfl) ⟨rfl, congrArg aB (by simp_all [stopB] <;> omega)⟩
    · skip
      refine L.on rfl rfl ?_
      refine L.mv rfl rfl ?_
      refine L.on rfl rfl ?_
      refine L.cmp rfl rfl rfl rfl ?_
      refine L.pkF rfl rfl rfl ?_
      refine L.mv rfl rfl ?_
      refine L.caseB 13 rfl (fun h13 => ?_) (fun h13 => ?_)
      · skip
        refine L.off rfl rfl rfl rfl ?_
        refine L.off rfl rfl rfl rfl ?_
        refine L.pkT rfl rfl rfl ?_
        refine L.mv rfl rfl ?_
        refine L.off rfl rfl rfl rfl ?_
        refine L.off rfl rfl rfl rfl ?_
        refine L.pkT rfl rfl rfl ?_
        refine L.mv rfl rfl ?_
        refine L.off rfl rfl rfl rfl ?_
        refine L.off rfl rfl rfl rfl ?_
        refine L.pkT rfl rfl rfl ?_
        refine L.as rfl rfl ?_
        refine L.nil ?_
        refine T.ret ?_
        exact G.ret (res1 Tryz.results86 rfl) ⟨rfl, congrArg aB (by simp_all [stopB] <;> omega)⟩
      · skip
        refine L.on rfl rfl ?_
        refine L.mv rfl rfl ?_
        refine L.on rfl rfl ?_
        refine L.cmp rfl rfl rfl rfl ?_
        refine L.pkF rfl rfl rfl ?_
        refine L.mv rfl rfl ?_
        refine L.caseB 17 rfl (fun h17 => ?_) (fun h17 => ?_)
        · skip
          refine L.off rfl rfl rfl rfl ?_
          refine L.off rfl rfl rfl rfl ?_
          refine L.pkT rfl rfl rfl ?_
          refine L.mv rfl rfl ?_
          refine L.off rfl rfl rfl rfl ?_
          refine L.off rfl rfl rfl rfl ?_
          refine L.pkT rfl rfl rfl ?_
          refine L.as rfl rfl ?_
          refine L.nil ?_
          refine T.ret ?_
          exact G.ret (res1 Tryz.results86 rfl) ⟨rfl, congrArg aB (by simp_all [stopB] <;> omega)⟩
        · skip
          refine L.on rfl rfl ?_
          refine L.mv rfl rfl ?_
          refine L.on rfl rfl ?_
          refine L.cmp rfl rfl rfl rfl ?_
          refine L.pkF rfl rfl rfl ?_
          refine L.mv rfl rfl ?_
          refine L.caseB 21 rfl (fun h21 => ?_) (fun h21 => ?_)
          · skip
            refine L.off rfl rfl rfl rfl ?_
            refine L.off rfl rfl rfl rfl ?_
            refine L.pkT rfl rfl rfl ?_
            refine L.as rfl rfl ?_
            refine L.nil ?_
            refine T.ret ?_
            exact G.ret (res1 Tryz.results86 rfl) ⟨rfl, congrArg aB (by simp_all [stopB] <;> omega)⟩
          · skip
            refine L.on rfl rfl ?_
            refine L.mv rfl rfl ?_
            refine L.on rfl rfl ?_
            refine L.cmp rfl rfl rfl rfl ?_
            refine L.pkF rfl rfl rfl ?_
            refine L.as rfl rfl ?_
            refine L.nil ?_
            refine T.ret ?_
            exact G.ret (res1 Tryz.results86 rfl) ⟨rfl, congrArg aB (by simp_all [stopB] <;> omega)⟩

set_option maxHeartbeats 400000 in
theorem f113 (c : UInt8) : Fc Tryz.prog 113 [B8 c] [] (Just (aB (plainB c))) := by
  refine Fc.enter Tryz.func113 rfl Tryz.ntmps113 rfl fun X w => ?_
  refine T.rg ?_
  refine L.as rfl rfl ?_
  refine L.nil ?_
  refine T.rg ?_
  refine L.mv rfl rfl ?_
  refine L.cmp rfl rfl rfl rfl ?_
  refine L.mv rfl rfl ?_
  refine L.caseB 5 rfl (fun h5 => ?_) (fun h5 => ?_)
  · skip
    refine L.on rfl rfl ?_
    refine L.mv rfl rfl ?_
    refine L.on rfl rfl ?_
    refine L.cmp rfl rfl rfl rfl ?_
    refine L.pkT rfl rfl rfl ?_
    refine L.mv rfl rfl ?_
    refine L.caseB 9 rfl (fun h9 => ?_) (fun h9 => ?_)
    · skip
      refine L.off rfl rfl rfl rfl ?_
      refine L.off rfl rfl rfl rfl ?_
      refine L.off rfl rfl rfl rfl ?_
      refine L.offU rfl rfl rfl ?_
      refine L.offU rfl rfl rfl ?_
      refine L.off rfl rfl rfl rfl ?_
      refine L.pkT rfl rfl rfl ?_
      refine L.mv rfl rfl ?_
      refine L.off rfl rfl rfl rfl ?_
      refine L.off rfl rfl rfl rfl ?_
      refine L.pkT rfl rfl rfl ?_
      refine L.as rfl rfl ?_
      refine L.nil ?_
      refine T.ret ?_
      exact G.ret (res1 Tryz.results113 rfl) ⟨rfl, congrArg aB (by simp_all [plainB, letterB, digitB] <;> omega)⟩
    · skip
      refine L.on rfl rfl ?_
      refine L.mv rfl rfl ?_
      refine L.on rfl rfl ?_
      refine L.cmp rfl rfl rfl rfl ?_
      refine L.on rfl rfl ?_
      refine L.mv rfl rfl ?_
      refine L.caseB 12 rfl (fun h12 => ?_) (fun h12 => ?_)
      · skip
        refine L.on rfl rfl ?_
        refine L.mv rfl rfl ?_
        refine L.on rfl rfl ?_
        refine L.cmp rfl rfl rfl rfl ?_
        refine L.on rfl rfl ?_
        refine L.pkT rfl rfl rfl ?_
        refine L.pkF rfl rfl rfl ?_
        refine L.mv rfl rfl ?_
        refine L.caseB 17 rfl (fun h17 => ?_) (fun h17 => ?_)
        · skip
          refine L.off rfl rfl rfl rfl ?_
          refine L.off rfl rfl rfl rfl ?_
          refine L.pkT rfl rfl rfl ?_
          refine L.as rfl rfl ?_
          refine L.nil ?_
          refine T.ret ?_
          exact G.ret (res1 Tryz.results113 rfl) ⟨rfl, congrArg aB (by simp_all [plainB, letterB, digitB] <;> omega)⟩
        · skip
          refine L.on rfl rfl ?_
          refine L.mv rfl rfl ?_
          refine L.on rfl rfl ?_
          refine L.cmp rfl rfl rfl rfl ?_
          refine L.pkF rfl rfl rfl ?_
          refine L.as rfl rfl ?_
          refine L.nil ?_
          refine T.ret ?_
          exact G.ret (res1 Tryz.results113 rfl) ⟨rfl, congrArg aB (by simp_all [plainB, letterB, digitB] <;> omega)⟩
      · skip
        refine L.off rfl rfl rfl rfl ?_
        refine L.off rfl rfl rfl rfl ?_
        refine L.on rfl rfl ?_
        refine L.pkF rfl rfl rfl ?_
        refine L.pkF rfl rfl rfl ?_
        refine L.mv rfl rfl ?_
        refine L.on rfl rfl ?_
        refine L.mv rfl rfl ?_
        refine L.on rfl rfl ?_
        refine L.cmp rfl rfl rfl rfl ?_
        refine L.pkF rfl rfl rfl ?_
        refine L.as rfl rfl ?_
        refine L.nil ?_
        refine T.ret ?_
        exact G.ret (res1 Tryz.results113 rfl) ⟨rfl, congrArg aB (by simp_all [plainB, letterB, digitB] <;> omega)⟩
  · skip
    refine L.off rfl rfl rfl rfl ?_
    refine L.off rfl rfl rfl rfl ?_
    refine L.pkF rfl rfl rfl ?_
    refine L.mv rfl rfl ?_
    refine L.on rfl rfl ?_
    refine L.mv rfl rfl ?_
    refine L.on rfl rfl ?_
    refine L.cmp rfl rfl rfl rfl ?_
    refine L.on rfl rfl ?_
    refine L.mv rfl rfl ?_
    refine L.caseB 12 rfl (fun h12 => ?_) (fun h12 => ?_)
    · skip
      refine L.on rfl rfl ?_
      refine L.mv rfl rfl ?_
      refine L.on rfl rfl ?_
      refine L.cmp rfl rfl rfl rfl ?_
      refine L.on rfl rfl ?_
      refine L.pkT rfl rfl rfl ?_
      refine L.pkF rfl rfl rfl ?_
      refine L.mv rfl rfl ?_
      refine L.caseB 17 rfl (fun h17 => ?_) (fun h17 => ?_)
      · skip
        refine L.off rfl rfl rfl rfl ?_
        refine L.off rfl rfl rfl rfl ?_
        refine L.pkT rfl rfl rfl ?_
        refine L.as rfl rfl ?_
        refine L.nil ?_
        refine T.ret ?_
        exact G.ret (res1 Tryz.results113 rfl) ⟨rfl, congrArg aB (by simp_all [plainB, letterB, digitB] <;> omega)⟩
      · skip
        refine L.on rfl rfl ?_
        refine L.mv rfl rfl ?_
        refine L.on rfl rfl ?_
        refine L.cmp rfl rfl rfl rfl ?_
        refine L.pkF rfl rfl rfl ?_
        refine L.as rfl rfl ?_
        refine L.nil ?_
        refine T.ret ?_
        exact G.ret (res1 Tryz.results113 rfl) ⟨rfl, congrArg aB (by simp_all [plainB, letterB, digitB] <;> omega)⟩
    · skip
      refine L.off rfl rfl rfl rfl ?_
      refine L.off rfl rfl rfl rfl ?_
      refine L.on rfl rfl ?_
      refine L.pkF rfl rfl rfl ?_
      refine L.pkF rfl rfl rfl ?_
      refine L.mv rfl rfl ?_
      refine L.on rfl rfl ?_
      refine L.mv rfl rfl ?_
      refine L.on rfl rfl ?_
      refine L.cmp rfl rfl rfl rfl ?_
      refine L.pkF rfl rfl rfl ?_
      refine L.as rfl rfl ?_
      refine L.nil ?_
      refine T.ret ?_
      exact G.ret (res1 Tryz.results113 rfl) ⟨rfl, congrArg aB (by simp_all [plainB, letterB, digitB] <;> omega)⟩

set_option maxHeartbeats 400000 in
theorem f100 (s : ByteArray) (hs : s.size ≤ 9223372036854775807) (g : FuncId) (p : UInt8 → Bool) (hg : enters Tryz.prog g = true) (hp : ∀ c : UInt8, Fc Tryz.prog g [B8 c] [] (Just (aB (p c)))) : Fc Tryz.prog 100 [S_ s, R_ (.func (.func g) #[] #[])] [] (Just (aB (allB p s))) := by
  refine Fc.enter Tryz.func100 rfl Tryz.ntmps100 rfl fun X w => ?_
  refine T.rg ?_
  refine L.as rfl rfl ?_
  refine L.nil ?_
  refine T.of_seq ?_
  refine T.rg ?_
  refine L.mv rfl rfl ?_
  refine L.lenS Tryz.underlying9 rfl rfl ?_
  refine L.mv rfl rfl ?_
  refine L.nil ?_
  refine T.block ?_
  refine T.loop (fun m σ Ω => ∃ k : Nat, k ≤ s.size ∧ m = s.size - k ∧ (s.data.toList.take k).all p = true ∧ σ = [(8, aN k), (7, aN s.size), (1, aR (.func (.func g) #[] #[])), (0, aS s)] ∧ Ω = []) (s.size) _ (⟨0, by omega, by omega, by simp, rfl, rfl⟩) (by repeat constructor) ?_
  rintro m σ Ω ⟨k, hk, rfl, hall, rfl, rfl⟩
  refine T.rg ?_
  refine L.cmp rfl rfl rfl rfl ?_
  refine L.nil ?_
  refine T.of_seq ?_
  refine T.cond rfl (fun h9 => ?_) (fun h9 => ?_)
  · skip
    have hlt : k < s.size := by simpa using h9
    refine T.skip ?_
    refine T.go (fun _ _ h => h) ?_
    refine T.of_seq ?_
    refine T.block ?_
    refine T.rg ?_
    refine L.mv rfl rfl ?_
    refine L.as rfl rfl ?_
    refine L.nil ?_
    refine T.rg ?_
    refine L.mv rfl rfl ?_
    refine L.mv rfl rfl ?_
    refine L.mv rfl rfl ?_
    refine L.ixS k Tryz.underlying9 rfl rfl rfl hlt rfl ?_
    refine L.callV [] [] [] rfl rfl hg rfl rfl rfl (hp _) ?_
    rintro _ _ ⟨rfl, rfl⟩
    refine L.not rfl rfl ?_
    refine L.nil ?_
    refine T.cond rfl (fun h16 => ?_) (fun h16 => ?_)
    · skip
      refine T.rg ?_
      refine L.as rfl rfl ?_
      refine L.nil ?_
      refine T.ret ?_
      exact G.ret (res1 Tryz.results100 rfl) ⟨rfl, congrArg aB (allB_no hlt (by simpa using h16)).symm⟩
    · skip
      refine T.skip ?_
      refine T.go (fun _ _ h => h) ?_
      refine T.region ?_
      refine L.ar ((k + 1 : Nat) : Int) rfl rfl rfl (by omega) rfl ?_
      refine L.mv rfl rfl ?_
      refine L.last ?_
      refine G.round (s.size - (k + 1)) _ (by omega) ⟨k + 1, by omega, rfl, all_take_succ hlt hall (by simpa using h16), rfl, rfl⟩ (by repeat constructor)
  · skip
    have hge : s.size ≤ k := by simpa using h9
    refine T.exit ?_
    refine T.go (fun _ _ h => h) ?_
    refine T.rg ?_
    refine L.as rfl rfl ?_
    refine L.nil ?_
    refine T.ret ?_
    exact G.ret (res1 Tryz.results100 rfl) ⟨rfl, congrArg aB (allB_done hge hall).symm⟩

set_option maxHeartbeats 400000 in
theorem f82 (s : ByteArray) (hs : s.size ≤ 9223372036854775807) : Fc Tryz.prog 82 [S_ s] [] (Just (aB (keyB s))) := by
  refine Fc.enter Tryz.func82 rfl Tryz.ntmps82 rfl fun X w => ?_
  refine T.rg ?_
  refine L.as rfl rfl ?_
  refine L.nil ?_
  refine T.rg ?_
  refine L.mv rfl rfl ?_
  refine L.neS rfl rfl rfl ?_
  refine L.mv rfl rfl ?_
  refine L.caseB 5 rfl (fun h5 => ?_) (fun h5 => ?_)
  · skip
    refine L.on rfl rfl ?_
    refine L.mv rfl rfl ?_
    refine L.on rfl rfl ?_
    refine L.lenS Tryz.underlying9 rfl rfl ?_
    refine L.on rfl rfl ?_
    refine L.cmp rfl rfl rfl rfl ?_
    refine L.pkT rfl rfl rfl ?_
    refine L.mv rfl rfl ?_
    refine L.caseB 10 rfl (fun h10 => ?_) (fun h10 => ?_)
    · skip
      refine L.on rfl rfl ?_
      refine L.mv rfl rfl ?_
      refine L.on rfl rfl ?_
      refine L.call e100 rfl rfl (f100 s hs 101 plainB e101 f101) ?_
      rintro _ _ ⟨rfl, rfl⟩
      refine L.pkT rfl rfl rfl ?_
      refine L.as rfl rfl ?_
      refine L.nil ?_
      refine T.ret ?_
      exact G.ret (res1 Tryz.results82 rfl) ⟨rfl, congrArg aB (by rw [emp] at h5; simp_all [keyB] <;> omega)⟩
    · skip
      refine L.off rfl rfl rfl rfl ?_
      refine L.off rfl rfl rfl rfl ?_
      refine L.pkF rfl rfl rfl ?_
      refine L.as rfl rfl ?_
      refine L.nil ?_
      refine T.ret ?_
      exact G.ret (res1 Tryz.results82 rfl) ⟨rfl, congrArg aB (by rw [emp] at h5; simp_all [keyB] <;> omega)⟩
  · skip
    refine L.off rfl rfl rfl rfl ?_
    refine L.off rfl rfl rfl rfl ?_
    refine L.off rfl rfl rfl rfl ?_
    refine L.pkF rfl rfl rfl ?_
    refine L.mv rfl rfl ?_
    refine L.off rfl rfl rfl rfl ?_
    refine L.off rfl rfl rfl rfl ?_
    refine L.pkF rfl rfl rfl ?_
    refine L.as rfl rfl ?_
    refine L.nil ?_
    refine T.ret ?_
    exact G.ret (res1 Tryz.results82 rfl) ⟨rfl, congrArg aB (by rw [emp] at h5; simp_all [keyB] <;> omega)⟩

set_option maxHeartbeats 400000 in
theorem f56 (s : ByteArray) (hs : s.size ≤ 9223372036854775807) : Fc Tryz.prog 56 [S_ s] [] (Just (aB (nameB s))) := by
  refine Fc.enter Tryz.func56 rfl Tryz.ntmps56 rfl fun X w => ?_
  refine T.rg ?_
  refine L.as rfl rfl ?_
  refine L.nil ?_
  refine T.rg ?_
  refine L.mv rfl rfl ?_
  refine L.call e82 rfl rfl (f82 s hs) ?_
  rintro _ _ ⟨rfl, rfl⟩
  refine L.mv rfl rfl ?_
  refine L.caseB 5 rfl (fun h5 => ?_) (fun h5 => ?_)
  · skip
    have h0 := keyB_pos h5
    refine L.on rfl rfl ?_
    refine L.mv rfl rfl ?_
    refine L.on rfl rfl ?_
    refine L.ixS 0 Tryz.underlying9 rfl rfl rfl h0 rfl ?_
    refine L.on rfl rfl ?_
    refine L.call e83 rfl rfl (f83 _) ?_
    rintro _ _ ⟨rfl, rfl⟩
    refine L.pkT rfl rfl rfl ?_
    refine L.as rfl rfl ?_
    refine L.nil ?_
    refine T.ret ?_
    exact G.ret (res1 Tryz.results56 rfl) ⟨rfl, congrArg aB (by obtain ⟨r, hr⟩ := head_get s h0; simp [nameB, h5, hr])⟩
  · skip
    refine L.off rfl rfl rfl rfl ?_
    refine L.off rfl rfl rfl rfl ?_
    refine L.off rfl rfl rfl rfl ?_
    refine L.pkF rfl rfl rfl ?_
    refine L.as rfl rfl ?_
    refine L.nil ?_
    refine T.ret ?_
    exact G.ret (res1 Tryz.results56 rfl) ⟨rfl, congrArg aB (by simp [nameB, h5])⟩

set_option maxHeartbeats 400000 in
theorem f84 (s : ByteArray) (hs : s.size ≤ 9223372036854775807) : Fc Tryz.prog 84 [S_ s] [] (Just (aB (valueB s))) := by
  refine Fc.enter Tryz.func84 rfl Tryz.ntmps84 rfl fun X w => ?_
  refine T.rg ?_
  refine L.as rfl rfl ?_
  refine L.nil ?_
  refine T.rg ?_
  refine L.mv rfl rfl ?_
  refine L.lenS Tryz.underlying9 rfl rfl ?_
  refine L.cmp rfl rfl rfl rfl ?_
  refine L.mv rfl rfl ?_
  refine L.caseB 6 rfl (fun h6 => ?_) (fun h6 => ?_)
  · skip
    refine L.on rfl rfl ?_
    refine L.mv rfl rfl ?_
    refine L.on rfl rfl ?_
    refine L.call e100 rfl rfl (f100 s hs 102 visibleB e102 f102) ?_
    rintro _ _ ⟨rfl, rfl⟩
    refine L.pkT rfl rfl rfl ?_
    refine L.as rfl rfl ?_
    refine L.nil ?_
    refine T.ret ?_
    exact G.ret (res1 Tryz.results84 rfl) ⟨rfl, congrArg aB (by simp_all [valueB] <;> omega)⟩
  · skip
    refine L.off rfl rfl rfl rfl ?_
    refine L.off rfl rfl rfl rfl ?_
    refine L.pkF rfl rfl rfl ?_
    refine L.as rfl rfl ?_
    refine L.nil ?_
    refine T.ret ?_
    exact G.ret (res1 Tryz.results84 rfl) ⟨rfl, congrArg aB (by simp_all [valueB] <;> omega)⟩

set_option maxHeartbeats 400000 in
theorem f103 (s : ByteArray) (hs : s.size ≤ 9223372036854775807) : Fc Tryz.prog 103 [S_ s] [] (Just (aB (keyB s))) := by
  refine Fc.enter Tryz.func103 rfl Tryz.ntmps103 rfl fun X w => ?_
  refine T.rg ?_
  refine L.as rfl rfl ?_
  refine L.nil ?_
  refine T.of_seq ?_
  refine T.rg ?_
  refine L.as rfl rfl ?_
  refine L.nil ?_
  refine T.block ?_
  refine T.loop (fun m σ Ω => ∃ k : Nat, k ≤ s.size ∧ m = s.size - k ∧ (s.data.toList.take k).all plainB = true ∧ σ = [(3, aN k), (0, aS s)] ∧ Ω = []) (s.size) _ (⟨0, by omega, by omega, by simp, rfl, rfl⟩) (by repeat constructor) ?_
  rintro m σ Ω ⟨k, hk, rfl, hall, rfl, rfl⟩
  refine T.of_seq ?_
  refine T.rg ?_
  refine L.mv rfl rfl ?_
  refine L.mv rfl rfl ?_
  refine L.lenS Tryz.underlying9 rfl rfl ?_
  refine L.cmp rfl rfl rfl rfl ?_
  refine L.nil ?_
  refine T.cond rfl (fun h7 => ?_) (fun h7 => ?_)
  · skip
    have hlt : k < s.size := by simpa using h7
    refine T.skip ?_
    refine T.go (fun _ _ h => h) ?_
    refine T.of_seq ?_
    refine T.block ?_
    refine T.rg ?_
    refine L.mv rfl rfl ?_
    refine L.mv rfl rfl ?_
    refine L.ixS k Tryz.underlying9 rfl rfl rfl hlt rfl ?_
    refine L.call e113 rfl rfl (f113 _) ?_
    rintro _ _ ⟨rfl, rfl⟩
    refine L.not rfl rfl ?_
    refine L.nil ?_
    refine T.cond rfl (fun h14 => ?_) (fun h14 => ?_)
    · skip
      refine T.rg ?_
      refine L.as rfl rfl ?_
      refine L.nil ?_
      refine T.ret ?_
      exact G.ret (res1 Tryz.results103 rfl) ⟨rfl, congrArg aB (by have := allB_no (p := plainB) hlt (by simpa using h14); simp [keyB, this])⟩
    · skip
      refine T.skip ?_
      refine T.go (fun _ _ h => h) ?_
      refine T.region ?_
      refine L.mv rfl rfl ?_
      refine L.ar ((k + 1 : Nat) : Int) rfl rfl rfl (by omega) rfl ?_
      refine L.as rfl rfl ?_
      refine L.last ?_
      refine G.round (s.size - (k + 1)) _ (by omega) ⟨k + 1, by omega, rfl, all_take_succ hlt hall (by simpa using h14), rfl, rfl⟩ (by repeat constructor)
  · skip
    have hge : s.size ≤ k := by simpa using h7
    have hall2 := allB_done hge hall
    refine T.exit ?_
    refine T.go (fun _ _ h => h) ?_
    refine T.rg ?_
    refine L.mv rfl rfl ?_
    refine L.lenS Tryz.underlying9 rfl rfl ?_
    refine L.cmp rfl rfl rfl rfl ?_
    refine L.mv rfl rfl ?_
    refine L.caseB 18 rfl (fun h18 => ?_) (fun h18 => ?_)
    · skip
      refine L.on rfl rfl ?_
      refine L.mv rfl rfl ?_
      refine L.on rfl rfl ?_
      refine L.lenS Tryz.underlying9 rfl rfl ?_
      refine L.on rfl rfl ?_
      refine L.cmp rfl rfl rfl rfl ?_
      refine L.pkT rfl rfl rfl ?_
      refine L.as rfl rfl ?_
      refine L.nil ?_
      refine T.ret ?_
      exact G.ret (res1 Tryz.results103 rfl) ⟨rfl, congrArg aB (by simp at h18; have h0 : s.size ≠ 0 := (by omega); have h1 : s.size ≠ 0 := h0; simp [keyB, hall2, h0]; omega)⟩
    · skip
      refine L.off rfl rfl rfl rfl ?_
      refine L.off rfl rfl rfl rfl ?_
      refine L.off rfl rfl rfl rfl ?_
      refine L.pkF rfl rfl rfl ?_
      refine L.as rfl rfl ?_
      refine L.nil ?_
      refine T.ret ?_
      exact G.ret (res1 Tryz.results103 rfl) ⟨rfl, congrArg aB (by simp at h18; have h0 : s.size = 0 := (by omega); simp [keyB, h0])⟩

set_option maxHeartbeats 400000 in
theorem f87 (s : ByteArray) (hs : s.size ≤ 9223372036854775807) : Fc Tryz.prog 87 [S_ s] [] (Just (aB (nameB s))) := by
  refine Fc.enter Tryz.func87 rfl Tryz.ntmps87 rfl fun X w => ?_
  refine T.rg ?_
  refine L.as rfl rfl ?_
  refine L.nil ?_
  refine T.rg ?_
  refine L.mv rfl rfl ?_
  refine L.call e103 rfl rfl (f103 s hs) ?_
  rintro _ _ ⟨rfl, rfl⟩
  refine L.mv rfl rfl ?_
  refine L.caseB 5 rfl (fun h5 => ?_) (fun h5 => ?_)
  · skip
    have h0 := keyB_pos h5
    refine L.on rfl rfl ?_
    refine L.mv rfl rfl ?_
    refine L.on rfl rfl ?_
    refine L.ixS 0 Tryz.underlying9 rfl rfl rfl h0 rfl ?_
    refine L.on rfl rfl ?_
    refine L.cmp rfl rfl rfl rfl ?_
    refine L.pkT rfl rfl rfl ?_
    refine L.as rfl rfl ?_
    refine L.nil ?_
    refine T.ret ?_
    exact G.ret (res1 Tryz.results87 rfl) ⟨rfl, congrArg aB (by rw [nameB, h5, nameB_ref s h5 h0]; rfl)⟩
  · skip
    refine L.off rfl rfl rfl rfl ?_
    refine L.off rfl rfl rfl rfl ?_
    refine L.off rfl rfl rfl rfl ?_
    refine L.pkF rfl rfl rfl ?_
    refine L.as rfl rfl ?_
    refine L.nil ?_
    refine T.ret ?_
    exact G.ret (res1 Tryz.results87 rfl) ⟨rfl, congrArg aB (by simp [nameB, h5])⟩

set_option maxHeartbeats 1000000 in
theorem f59 (s : ByteArray) (hs : s.size ≤ 9223372036854775807) : Fc Tryz.prog 59 [S_ s] [] (Just (aB (valueB s))) := by
  refine Fc.enter Tryz.func59 rfl Tryz.ntmps59 rfl fun X w => ?_
  refine T.rg ?_
  refine L.as rfl rfl ?_
  refine L.nil ?_
  refine T.of_seq ?_
  refine T.rg ?_
  refine L.as rfl rfl ?_
  refine L.nil ?_
  refine T.block ?_
  refine T.loop (fun m σ Ω => ∃ k : Nat, k ≤ s.size ∧ m = s.size - k ∧ (s.data.toList.take k).all visibleB = true ∧ σ = [(3, aN k), (0, aS s)] ∧ Ω = []) (s.size) _ (⟨0, by omega, by omega, by simp, rfl, rfl⟩) (by repeat constructor) ?_
  rintro m σ Ω ⟨k, hk, rfl, hall, rfl, rfl⟩
  refine T.of_seq ?_
  refine T.rg ?_
  refine L.mv rfl rfl ?_
  refine L.mv rfl rfl ?_
  refine L.lenS Tryz.underlying9 rfl rfl ?_
  refine L.cmp rfl rfl rfl rfl ?_
  refine L.nil ?_
  refine T.cond rfl (fun h7 => ?_) (fun h7 => ?_)
  · skip
    have hlt : k < s.size := by simpa using h7
    refine T.skip ?_
    refine T.go (fun _ _ h => h) ?_
    refine T.of_seq ?_
    refine T.block ?_
    refine T.rg ?_
    refine L.mv rfl rfl ?_
    refine L.mv rfl rfl ?_
    refine L.ixS k Tryz.underlying9 rfl rfl rfl hlt rfl ?_
    refine L.cmp rfl rfl rfl rfl ?_
    refine L.mv rfl rfl ?_
    refine L.caseB 14 rfl (fun h14 => ?_) (fun h14 => ?_)
    · skip
      refine L.off rfl rfl rfl rfl ?_
      refine L.off rfl rfl rfl rfl ?_
      refine L.off rfl rfl rfl rfl ?_
      refine L.off rfl rfl rfl rfl ?_
      refine L.pkT rfl rfl rfl ?_
      refine L.mv rfl rfl ?_
      refine L.off rfl rfl rfl rfl ?_
      refine L.off rfl rfl rfl rfl ?_
      refine L.off rfl rfl rfl rfl ?_
      refine L.off rfl rfl rfl rfl ?_
      refine L.pkT rfl rfl rfl ?_
      refine L.mv rfl rfl ?_
      refine L.off rfl rfl rfl rfl ?_
      refine L.off rfl rfl rfl rfl ?_
      refine L.off rfl rfl rfl rfl ?_
      refine L.off rfl rfl rfl rfl ?_
      refine L.pkT rfl rfl rfl ?_
      refine L.mv rfl rfl ?_
      refine L.off rfl rfl rfl rfl ?_
      refine L.off rfl rfl rfl rfl ?_
      refine L.off rfl rfl rfl rfl ?_
      refine L.off rfl rfl rfl rfl ?_
      refine L.pkT rfl rfl rfl ?_
      refine L.nil ?_
      refine T.condT rfl ?_
      refine T.rg ?_
      refine L.as rfl rfl ?_
      refine L.nil ?_
      refine T.ret ?_
      exact G.ret (res1 Tryz.results59 rfl) ⟨rfl, congrArg aB (by have hv : visibleB s[k] = false := (by unfold visibleB; simp_all <;> omega); have hw := allB_no (p := visibleB) hlt hv; simp [valueB, hw])⟩
    · skip
      refine L.on rfl rfl ?_
      refine L.mv rfl rfl ?_
      refine L.on rfl rfl ?_
      refine L.mv rfl rfl ?_
      refine L.on rfl rfl ?_
      refine L.ixS k Tryz.underlying9 rfl rfl rfl hlt rfl ?_
      refine L.on rfl rfl ?_
      refine L.cmp rfl rfl rfl rfl ?_
      refine L.pkF rfl rfl rfl ?_
      refine L.mv rfl rfl ?_
      refine L.caseB 20 rfl (fun h20 => ?_) (fun h20 => ?_)
      · skip
        refine L.off rfl rfl rfl rfl ?_
        refine L.off rfl rfl rfl rfl ?_
        refine L.off rfl rfl rfl rfl ?_
        refine L.off rfl rfl rfl rfl ?_
        refine L.pkT rfl rfl rfl ?_
        refine L.mv rfl rfl ?_
        refine L.off rfl rfl rfl rfl ?_
        refine L.off rfl rfl rfl rfl ?_
        refine L.off rfl rfl rfl rfl ?_
        refine L.off rfl rfl rfl rfl ?_
        refine L.pkT rfl rfl rfl ?_
        refine L.mv rfl rfl ?_
        refine L.off rfl rfl rfl rfl ?_
        refine L.off rfl rfl rfl rfl ?_
        refine L.off rfl rfl rfl rfl ?_
        refine L.off rfl rfl rfl rfl ?_
        refine L.pkT rfl rfl rfl ?_
        refine L.nil ?_
        refine T.condT rfl ?_
        refine T.rg ?_
        refine L.as rfl rfl ?_
        refine L.nil ?_
        refine T.ret ?_
        exact G.ret (res1 Tryz.results59 rfl) ⟨rfl, congrArg aB (by have hv : visibleB s[k] = false := (by unfold visibleB; simp_all <;> omega); have hw := allB_no (p := visibleB) hlt hv; simp [valueB, hw])⟩
      · skip
        refine L.on rfl rfl ?_
        refine L.mv rfl rfl ?_
        refine L.on rfl rfl ?_
        refine L.mv rfl rfl ?_
        refine L.on rfl rfl ?_
        refine L.ixS k Tryz.underlying9 rfl rfl rfl hlt rfl ?_
        refine L.on rfl rfl ?_
        refine L.cmp rfl rfl rfl rfl ?_
        refine L.pkF rfl rfl rfl ?_
        refine L.mv rfl rfl ?_
        refine L.caseB 26 rfl (fun h26 => ?_) (fun h26 => ?_)
        · skip
          refine L.off rfl rfl rfl rfl ?_
          refine L.off rfl rfl rfl rfl ?_
          refine L.off rfl rfl rfl rfl ?_
          refine L.off rfl rfl rfl rfl ?_
          refine L.pkT rfl rfl rfl ?_
          refine L.mv rfl rfl ?_
          refine L.off rfl rfl rfl rfl ?_
          refine L.off rfl rfl rfl rfl ?_
          refine L.off rfl rfl rfl rfl ?_
          refine L.off rfl rfl rfl rfl ?_
          refine L.pkT rfl rfl rfl ?_
          refine L.nil ?_
          refine T.condT rfl ?_
          refine T.rg ?_
          refine L.as rfl rfl ?_
          refine L.nil ?_
          refine T.ret ?_
          exact G.ret (res1 Tryz.results59 rfl) ⟨rfl, congrArg aB (by have hv : visibleB s[k] = false := (by unfold visibleB; simp_all <;> omega); have hw := allB_no (p := visibleB) hlt hv; simp [valueB, hw])⟩
        · skip
          refine L.on rfl rfl ?_
          refine L.mv rfl rfl ?_
          refine L.on rfl rfl ?_
          refine L.mv rfl rfl ?_
          refine L.on rfl rfl ?_
          refine L.ixS k Tryz.underlying9 rfl rfl rfl hlt rfl ?_
          refine L.on rfl rfl ?_
          refine L.cmp rfl rfl rfl rfl ?_
          refine L.pkF rfl rfl rfl ?_
          refine L.mv rfl rfl ?_
          refine L.caseB 32 rfl (fun h32 => ?_) (fun h32 => ?_)
          · skip
            refine L.off rfl rfl rfl rfl ?_
            refine L.off rfl rfl rfl rfl ?_
            refine L.off rfl rfl rfl rfl ?_
            refine L.off rfl rfl rfl rfl ?_
            refine L.pkT rfl rfl rfl ?_
            refine L.nil ?_
            refine T.condT rfl ?_
            refine T.rg ?_
            refine L.as rfl rfl ?_
            refine L.nil ?_
            refine T.ret ?_
            exact G.ret (res1 Tryz.results59 rfl) ⟨rfl, congrArg aB (by have hv : visibleB s[k] = false := (by unfold visibleB; simp_all <;> omega); have hw := allB_no (p := visibleB) hlt hv; simp [valueB, hw])⟩
          · skip
            refine L.on rfl rfl ?_
            refine L.mv rfl rfl ?_
            refine L.on rfl rfl ?_
            refine L.mv rfl rfl ?_
            refine L.on rfl rfl ?_
            refine L.ixS k Tryz.underlying9 rfl rfl rfl hlt rfl ?_
            refine L.on rfl rfl ?_
            refine L.cmp rfl rfl rfl rfl ?_
            refine L.pkF rfl rfl rfl ?_
            refine L.nil ?_
            refine T.cond rfl (fun h37 => ?_) (fun h37 => ?_)
            · skip
              refine T.rg ?_
              refine L.as rfl rfl ?_
              refine L.nil ?_
              refine T.ret ?_
              exact G.ret (res1 Tryz.results59 rfl) ⟨rfl, congrArg aB (by have hv : visibleB s[k] = false := (by unfold visibleB; simp_all <;> omega); have hw := allB_no (p := visibleB) hlt hv; simp [valueB, hw])⟩
            · skip
              refine T.skip ?_
              refine T.go (fun _ _ h => h) ?_
              refine T.region ?_
              refine L.mv rfl rfl ?_
              refine L.ar ((k + 1 : Nat) : Int) rfl rfl rfl (by omega) rfl ?_
              refine L.as rfl rfl ?_
              refine L.last ?_
              refine G.round (s.size - (k + 1)) _ (by omega) ⟨k + 1, by omega, rfl, all_take_succ hlt hall ?_, rfl, rfl⟩ (by repeat constructor)
              unfold visibleB
              simp only [decide_eq_false_iff_not, decide_eq_true_eq, beq_eq_false_iff_ne, beq_iff_eq, Int.not_lt] at *
              simp only [Bool.and_eq_true, decide_eq_true_eq, bne_iff_ne]
              refine ⟨⟨⟨⟨?_, ?_⟩, ?_⟩, ?_⟩, ?_⟩ <;> omega
  · skip
    have hge : s.size ≤ k := by simpa using h7
    have hall2 := allB_done hge hall
    refine T.exit ?_
    refine T.go (fun _ _ h => h) ?_
    refine T.rg ?_
    refine L.mv rfl rfl ?_
    refine L.lenS Tryz.underlying9 rfl rfl ?_
    refine L.cmp rfl rfl rfl rfl ?_
    refine L.as rfl rfl ?_
    refine L.nil ?_
    refine T.ret ?_
    exact G.ret (res1 Tryz.results59 rfl) ⟨rfl, congrArg aB (by simp [valueB, hall2]; omega)⟩

set_option maxHeartbeats 400000 in
theorem f19 (s : ByteArray) (n : Nat) (hn : n ≤ 9223372036854775807) : Fc Tryz.prog 19 [S_ s, N_ (n : Int)] [] (Just (aS (s.extract 0 n))) := by
  refine Fc.enter Tryz.func19 rfl Tryz.ntmps19 rfl fun X w => ?_
  refine T.rg ?_
  refine L.as rfl rfl ?_
  refine L.nil ?_
  refine T.of_seq ?_
  refine T.rg ?_
  refine L.mv rfl rfl ?_
  refine L.lenS Tryz.underlying9 rfl rfl ?_
  refine L.mv rfl rfl ?_
  refine L.cmp rfl rfl rfl rfl ?_
  refine L.nil ?_
  refine T.cond rfl (fun h8 => ?_) (fun h8 => ?_)
  · skip
    have hlt : n < s.size := by simpa using h8
    refine T.rg ?_
    refine L.mv rfl rfl ?_
    refine L.mv rfl rfl ?_
    refine L.slS 0 n Tryz.underlying9 rfl rfl ⟨_, rfl⟩ ⟨by omega, by omega⟩ rfl ?_
    refine L.as rfl rfl ?_
    refine L.nil ?_
    refine T.ret ?_
    exact G.ret (res1 Tryz.results19 rfl) ⟨rfl, rfl⟩
  · skip
    have hge : s.size ≤ n := by simpa using h8
    refine T.skip ?_
    refine T.go (fun _ _ h => h) ?_
    refine T.rg ?_
    refine L.mv rfl rfl ?_
    refine L.as rfl rfl ?_
    refine L.nil ?_
    refine T.ret ?_
    exact G.ret (res1 Tryz.results19 rfl) ⟨rfl, congrArg aS (ext_all s n hge).symm⟩

set_option maxHeartbeats 400000 in
theorem f39 (s : ByteArray) (hs : s.size ≤ 9223372036854775806) (a : Nat) (ha : a ≤ s.size) : Fc Tryz.prog 39 [S_ s, N_ (a : Int)] [] (Just (aN (blanksN s a : Nat))) := by
  refine Fc.enter Tryz.func39 rfl Tryz.ntmps39 rfl fun X w => ?_
  refine T.rg ?_
  refine L.as rfl rfl ?_
  refine L.nil ?_
  refine T.of_seq ?_
  refine T.block ?_
  refine T.loop (fun m σ Ω => ∃ k : Nat, k ≤ s.size ∧ m = s.size - k ∧ blanksN s k = blanksN s a ∧ σ = [(1, aN k), (0, aS s)] ∧ Ω = []) (s.size - a) _ (⟨a, ha, rfl, rfl, rfl, rfl⟩) (by repeat constructor) ?_
  rintro m σ Ω ⟨k, hk, rfl, hb, rfl, rfl⟩
  refine T.of_seq ?_
  refine T.rg ?_
  refine L.mv rfl rfl ?_
  refine L.mv rfl rfl ?_
  refine L.lenS Tryz.underlying9 rfl rfl ?_
  refine L.cmp rfl rfl rfl rfl ?_
  refine L.mv rfl rfl ?_
  refine L.caseB 9 rfl (fun h9 => ?_) (fun h9 => ?_)
  · skip
    have hlt : k < s.size := by simpa using h9
    refine L.on rfl rfl ?_
    refine L.mv rfl rfl ?_
    refine L.on rfl rfl ?_
    refine L.mv rfl rfl ?_
    refine L.on rfl rfl ?_
    refine L.ixS k Tryz.underlying9 rfl rfl rfl hlt rfl ?_
    refine L.on rfl rfl ?_
    refine L.cmp rfl rfl rfl rfl ?_
    refine L.pkT rfl rfl rfl ?_
    refine L.nil ?_
    refine T.cond rfl (fun h14 => ?_) (fun h14 => ?_)
    · skip
      refine T.skip ?_
      refine T.go (fun _ _ h => h) ?_
      refine T.block ?_
      refine T.region ?_
      refine L.mv rfl rfl ?_
      refine L.ar ((k + 1 : Nat) : Int) rfl rfl rfl (by omega) rfl ?_
      refine L.as rfl rfl ?_
      refine L.last ?_
      refine G.round (s.size - (k + 1)) _ (by omega) ⟨k + 1, by omega, rfl, by rw [← hb, blanksN_yes hlt (by simpa using h14)], rfl, rfl⟩ (by repeat constructor)
    · skip
      refine T.exit ?_
      refine T.go (fun _ _ h => h) ?_
      refine T.rg ?_
      refine L.mv rfl rfl ?_
      refine L.as rfl rfl ?_
      refine L.nil ?_
      refine T.ret ?_
      exact G.ret (res1 Tryz.results39 rfl) ⟨rfl, congrArg (fun n : Nat => aN n) (by rw [← hb]; exact (blanksN_no hlt (by simpa using h14)).symm)⟩
  · skip
    have hge : s.size ≤ k := by simpa using h9
    refine L.off rfl rfl rfl rfl ?_
    refine L.off rfl rfl rfl rfl ?_
    refine L.off rfl rfl rfl rfl ?_
    refine L.off rfl rfl rfl rfl ?_
    refine L.pkF rfl rfl rfl ?_
    refine L.nil ?_
    refine T.condF rfl ?_
    refine T.exit ?_
    refine T.go (fun _ _ h => h) ?_
    refine T.rg ?_
    refine L.mv rfl rfl ?_
    refine L.as rfl rfl ?_
    refine L.nil ?_
    refine T.ret ?_
    exact G.ret (res1 Tryz.results39 rfl) ⟨rfl, congrArg (fun n : Nat => aN n) (by rw [← hb]; exact (blanksN_end hge).symm)⟩
end Go.Proofs.YtimimkdgofiloaaGreat
