/- The notation's options and items. Printed by gen.py. -/
import Derived.Test.YtimimkdgofiloaaGreatDoorS61
import Derived.Test.YtimimkdgofiloaaGreatDoorS52
namespace Go.Proofs.YtimimkdgofiloaaGreatDoor
open Go Go.Q
/-- A view while it's read: all but its classes and what is in it. -/
structure V5 where
  kd : Int
  tag : ByteArray
  id : ByteArray
  tx : ByteArray
  at' : List (ByteArray × ByteArray)
  st : List (ByteArray × Int)
  m0 : Int
  m1 : Int
  m2 : Int
  m3 : Int
  m4 : Bool
  m5 : Bool
def V5.cs : V5 → CV → CV → List CV
  | ⟨kd, tag, id, tx, at2, st, m0, m1, m2, m3, m4, m5⟩, c4, c13 => [.d (.i .i64 kd), .d (.s tag), .d (.s id), .d (.s tx), c4, .d (.l 2 (ats at2)), .d (.l 2 (prs st)), .d (.i .i64 m0), .d (.i .i64 m1), .d (.i .i64 m2), .d (.i .i64 m3), .d (.b m4), .d (.b m5), c13]
theorem f46w (t : ByteArray) (ht : t.size ≤ 1000000) : Fc Tryz.prog 46 [S_ t] [] (fun x Ω => Ω = [] ∧ ∃ (z : Int) (ok : Bool), x = .t [N_ z, Bo ok]) := by
  have h := f46 t.data.toList (by simpa using ht)
  rw [mkB_self] at h
  exact h.mono fun x Ω hx => ⟨hx.1, _, _, hx.2⟩
set_option maxHeartbeats 8000000 in
theorem f108 (b : Nat) (wd : ByteArray) (hw : wd.size ≤ 1000) (g : Nat) (ps : List (ByteArray × Int)) (q : V5) (c4 c13 : CV) : Fc Tryz.prog 108 [P_ b 0, S_ wd, R_ (.map (some g))] [cntM g ps, .blk b 36 (q.cs c4 c13)] (fun x Ω => ∃ (bb : Bool) (q2 : V5) (ps2 : List (ByteArray × Int)), x = aB bb ∧ Ω = [cntM g ps2, .blk b 36 (q2.cs c4 c13)] ∧ q2.at' = q.at' ∧ q2.st = q.st) := by
  obtain ⟨kd, tag, id, tx, at2, st, m0, m1, m2, m3, m4, m5⟩ := q
  refine Fc.enter Tryz.func108 rfl Tryz.ntmps108 rfl fun X w => ?_
  refine T.rg ?_
  refine L.as rfl rfl ?_
  refine L.nil ?_
  refine T.rg ?_
  refine L.mv rfl rfl ?_
  refine L.call e17 rfl rfl (f17c61 wd (by omega)) ?_
  rintro _ _ ⟨rfl, k2, v2, ok, rfl, hk2, hv2, hok⟩
  refine L.mv rfl rfl ?_
  refine L.ex rfl rfl rfl ?_
  refine L.ex rfl rfl rfl ?_
  refine L.ex rfl rfl rfl ?_
  refine L.as rfl rfl ?_
  refine L.as rfl rfl ?_
  refine L.as rfl rfl ?_
  refine L.nil ?_
  refine T.of_seq ?_
  refine T.rg ?_
  refine L.mv rfl rfl ?_
  refine L.nil ?_
  refine T.cond rfl (fun h18 => ?_) (fun h18 => ?_)
  · skip
    refine T.rg ?_
    refine L.mv rfl rfl ?_
    refine L.call e46 rfl rfl (f46w v2 (by omega)) ?_
    rintro _ _ ⟨rfl, z, okz, rfl⟩
    refine L.mv rfl rfl ?_
    refine L.ex rfl rfl rfl ?_
    refine L.ex rfl rfl rfl ?_
    refine L.as rfl rfl ?_
    refine L.as rfl rfl ?_
    refine L.nil ?_
    refine T.of_seq ?_
    refine T.rg ?_
    refine L.mv rfl rfl ?_
    refine L.nil ?_
    refine T.block ?_
    refine T.rg ?_
    refine L.eqS rfl rfl rfl ?_
    refine L.as rfl rfl ?_
    refine L.nil ?_
    refine T.cond rfl (fun h25 => ?_) (fun h25 => ?_)
    · skip
      refine T.region ?_
      refine L.mv rfl rfl ?_
      refine L.mv rfl rfl ?_
      refine L.nilck rfl rfl ?_
      refine L.fa Tryz.underlying36 rfl s33 rfl rfl ?_
      refine L.fa Tryz.underlying33 rfl s3 rfl rfl ?_
      refine L.sto 1 s3 rfl rfl rfl rfl rfl ?_
      refine L.last ?_
      refine T.go (fun _ _ h => h) ?_
      refine T.rg ?_
      refine L.mv rfl rfl ?_
      refine L.mv rfl rfl ?_
      refine L.caseB 47 rfl (fun h47 => ?_) (fun h47 => ?_)
      · skip
        refine L.on rfl rfl ?_
        refine L.mv rfl rfl ?_
        refine L.on rfl rfl ?_
        refine L.mv rfl rfl ?_
        refine L.on rfl rfl ?_
        refine L.callO [] [_] [_] rfl e106 rfl rfl (f106 g ps _) ?_
        rintro _ _ ⟨bb, ps2, rfl, rfl⟩
        refine L.pkT rfl rfl rfl ?_
        refine L.as rfl rfl ?_
        refine L.nil ?_
        refine T.ret ?_
        refine G.ret (res1 Tryz.results108 rfl) ?_
        refine ⟨_, ⟨_, _, _, _, _, _, _, _, _, _, _, _⟩, _, rfl, rfl, ?_⟩
        exact ⟨rfl, rfl⟩
      · skip
        refine L.off rfl rfl rfl rfl ?_
        refine L.off rfl rfl rfl rfl ?_
        refine L.off rfl rfl rfl rfl ?_
        refine L.pkF rfl rfl rfl ?_
        refine L.as rfl rfl ?_
        refine L.nil ?_
        refine T.ret ?_
        refine G.ret (res1 Tryz.results108 rfl) ?_
        refine ⟨_, ⟨_, _, _, _, _, _, _, _, _, _, _, _⟩, _, rfl, rfl, ?_⟩
        exact ⟨rfl, rfl⟩
    · skip
      refine T.rg ?_
      refine L.eqS rfl rfl rfl ?_
      refine L.as rfl rfl ?_
      refine L.nil ?_
      refine T.cond rfl (fun h32 => ?_) (fun h32 => ?_)
      · skip
        refine T.region ?_
        refine L.mv rfl rfl ?_
        refine L.mv rfl rfl ?_
        refine L.nilck rfl rfl ?_
        refine L.fa Tryz.underlying36 rfl s33 rfl rfl ?_
        refine L.fa Tryz.underlying33 rfl s3 rfl rfl ?_
        refine L.sto 1 s3 rfl rfl rfl rfl rfl ?_
        refine L.last ?_
        refine T.go (fun _ _ h => h) ?_
        refine T.rg ?_
        refine L.mv rfl rfl ?_
        refine L.mv rfl rfl ?_
        refine L.caseB 47 rfl (fun h47 => ?_) (fun h47 => ?_)
        · skip
          refine L.on rfl rfl ?_
          refine L.mv rfl rfl ?_
          refine L.on rfl rfl ?_
          refine L.mv rfl rfl ?_
          refine L.on rfl rfl ?_
          refine L.callO [] [_] [_] rfl e106 rfl rfl (f106 g ps _) ?_
          rintro _ _ ⟨bb, ps2, rfl, rfl⟩
          refine L.pkT rfl rfl rfl ?_
          refine L.as rfl rfl ?_
          refine L.nil ?_
          refine T.ret ?_
          refine G.ret (res1 Tryz.results108 rfl) ?_
          refine ⟨_, ⟨_, _, _, _, _, _, _, _, _, _, _, _⟩, _, rfl, rfl, ?_⟩
          exact ⟨rfl, rfl⟩
        · skip
          refine L.off rfl rfl rfl rfl ?_
          refine L.off rfl rfl rfl rfl ?_
          refine L.off rfl rfl rfl rfl ?_
          refine L.pkF rfl rfl rfl ?_
          refine L.as rfl rfl ?_
          refine L.nil ?_
          refine T.ret ?_
          refine G.ret (res1 Tryz.results108 rfl) ?_
          refine ⟨_, ⟨_, _, _, _, _, _, _, _, _, _, _, _⟩, _, rfl, rfl, ?_⟩
          exact ⟨rfl, rfl⟩
      · skip
        refine T.rg ?_
        refine L.eqS rfl rfl rfl ?_
        refine L.as rfl rfl ?_
        refine L.nil ?_
        refine T.cond rfl (fun h39 => ?_) (fun h39 => ?_)
        · skip
          refine T.region ?_
          refine L.mv rfl rfl ?_
          refine L.mv rfl rfl ?_
          refine L.nilck rfl rfl ?_
          refine L.fa Tryz.underlying36 rfl s33 rfl rfl ?_
          refine L.fa Tryz.underlying33 rfl s3 rfl rfl ?_
          refine L.sto 1 s3 rfl rfl rfl rfl rfl ?_
          refine L.last ?_
          refine T.go (fun _ _ h => h) ?_
          refine T.rg ?_
          refine L.mv rfl rfl ?_
          refine L.mv rfl rfl ?_
          refine L.caseB 47 rfl (fun h47 => ?_) (fun h47 => ?_)
          · skip
            refine L.on rfl rfl ?_
            refine L.mv rfl rfl ?_
            refine L.on rfl rfl ?_
            refine L.mv rfl rfl ?_
            refine L.on rfl rfl ?_
            refine L.callO [] [_] [_] rfl e106 rfl rfl (f106 g ps _) ?_
            rintro _ _ ⟨bb, ps2, rfl, rfl⟩
            refine L.pkT rfl rfl rfl ?_
            refine L.as rfl rfl ?_
            refine L.nil ?_
            refine T.ret ?_
            refine G.ret (res1 Tryz.results108 rfl) ?_
            refine ⟨_, ⟨_, _, _, _, _, _, _, _, _, _, _, _⟩, _, rfl, rfl, ?_⟩
            exact ⟨rfl, rfl⟩
          · skip
            refine L.off rfl rfl rfl rfl ?_
            refine L.off rfl rfl rfl rfl ?_
            refine L.off rfl rfl rfl rfl ?_
            refine L.pkF rfl rfl rfl ?_
            refine L.as rfl rfl ?_
            refine L.nil ?_
            refine T.ret ?_
            refine G.ret (res1 Tryz.results108 rfl) ?_
            refine ⟨_, ⟨_, _, _, _, _, _, _, _, _, _, _, _⟩, _, rfl, rfl, ?_⟩
            exact ⟨rfl, rfl⟩
        · skip
          refine T.rg ?_
          refine L.as rfl rfl ?_
          refine L.nil ?_
          refine T.ret ?_
          refine G.ret (res1 Tryz.results108 rfl) ?_
          refine ⟨_, ⟨_, _, _, _, _, _, _, _, _, _, _, _⟩, _, rfl, rfl, ?_⟩
          exact ⟨rfl, rfl⟩
  · skip
    refine T.skip ?_
    refine T.go (fun _ _ h => h) ?_
    refine T.of_seq ?_
    refine T.rg ?_
    refine L.mv rfl rfl ?_
    refine L.nil ?_
    refine T.block ?_
    refine T.rg ?_
    refine L.eqS rfl rfl rfl ?_
    refine L.as rfl rfl ?_
    refine L.nil ?_
    refine T.cond rfl (fun h53 => ?_) (fun h53 => ?_)
    · skip
      refine T.rg ?_
      refine L.mv rfl rfl ?_
      refine L.nilck rfl rfl ?_
      refine L.fa Tryz.underlying36 rfl s3 rfl rfl ?_
      refine L.sto 1 s3 rfl rfl rfl rfl rfl ?_
      refine L.nil ?_
      refine T.rg ?_
      refine L.mv rfl rfl ?_
      refine L.callO [] [_] [_] rfl e106 rfl rfl (f106 g ps _) ?_
      rintro _ _ ⟨bb, ps2, rfl, rfl⟩
      refine L.as rfl rfl ?_
      refine L.nil ?_
      refine T.ret ?_
      refine G.ret (res1 Tryz.results108 rfl) ?_
      refine ⟨_, ⟨_, _, _, _, _, _, _, _, _, _, _, _⟩, _, rfl, rfl, ?_⟩
      exact ⟨rfl, rfl⟩
    · skip
      refine T.rg ?_
      refine L.eqS rfl rfl rfl ?_
      refine L.as rfl rfl ?_
      refine L.nil ?_
      refine T.cond rfl (fun h60 => ?_) (fun h60 => ?_)
      · skip
        refine T.rg ?_
        refine L.mv rfl rfl ?_
        refine L.nilck rfl rfl ?_
        refine L.fa Tryz.underlying36 rfl s3 rfl rfl ?_
        refine L.sto 1 s3 rfl rfl rfl rfl rfl ?_
        refine L.nil ?_
        refine T.rg ?_
        refine L.mv rfl rfl ?_
        refine L.callO [] [_] [_] rfl e106 rfl rfl (f106 g ps _) ?_
        rintro _ _ ⟨bb, ps2, rfl, rfl⟩
        refine L.as rfl rfl ?_
        refine L.nil ?_
        refine T.ret ?_
        refine G.ret (res1 Tryz.results108 rfl) ?_
        refine ⟨_, ⟨_, _, _, _, _, _, _, _, _, _, _, _⟩, _, rfl, rfl, ?_⟩
        exact ⟨rfl, rfl⟩
      · skip
        refine T.rg ?_
        refine L.eqS rfl rfl rfl ?_
        refine L.as rfl rfl ?_
        refine L.nil ?_
        refine T.cond rfl (fun h67 => ?_) (fun h67 => ?_)
        · skip
          refine T.region ?_
          refine L.mv rfl rfl ?_
          refine L.nilck rfl rfl ?_
          refine L.fa Tryz.underlying36 rfl s33 rfl rfl ?_
          refine L.fa Tryz.underlying33 rfl s4 rfl rfl ?_
          refine L.sto 1 s4 rfl rfl rfl rfl rfl ?_
          refine L.last ?_
          refine T.go (fun _ _ h => h) ?_
          refine T.rg ?_
          refine L.mv rfl rfl ?_
          refine L.mv rfl rfl ?_
          refine L.callO [] [_] [_] rfl e106 rfl rfl (f106 g ps _) ?_
          rintro _ _ ⟨bb, ps2, rfl, rfl⟩
          refine L.as rfl rfl ?_
          refine L.nil ?_
          refine T.ret ?_
          refine G.ret (res1 Tryz.results108 rfl) ?_
          refine ⟨_, ⟨_, _, _, _, _, _, _, _, _, _, _, _⟩, _, rfl, rfl, ?_⟩
          exact ⟨rfl, rfl⟩
        · skip
          refine T.rg ?_
          refine L.eqS rfl rfl rfl ?_
          refine L.as rfl rfl ?_
          refine L.nil ?_
          refine T.cond rfl (fun h73 => ?_) (fun h73 => ?_)
          · skip
            refine T.region ?_
            refine L.mv rfl rfl ?_
            refine L.nilck rfl rfl ?_
            refine L.fa Tryz.underlying36 rfl s33 rfl rfl ?_
            refine L.fa Tryz.underlying33 rfl s4 rfl rfl ?_
            refine L.sto 1 s4 rfl rfl rfl rfl rfl ?_
            refine L.last ?_
            refine T.go (fun _ _ h => h) ?_
            refine T.rg ?_
            refine L.mv rfl rfl ?_
            refine L.mv rfl rfl ?_
            refine L.callO [] [_] [_] rfl e106 rfl rfl (f106 g ps _) ?_
            rintro _ _ ⟨bb, ps2, rfl, rfl⟩
            refine L.as rfl rfl ?_
            refine L.nil ?_
            refine T.ret ?_
            refine G.ret (res1 Tryz.results108 rfl) ?_
            refine ⟨_, ⟨_, _, _, _, _, _, _, _, _, _, _, _⟩, _, rfl, rfl, ?_⟩
            exact ⟨rfl, rfl⟩
          · skip
            refine T.rg ?_
            refine L.eqS rfl rfl rfl ?_
            refine L.as rfl rfl ?_
            refine L.nil ?_
            refine T.cond rfl (fun h79 => ?_) (fun h79 => ?_)
            · skip
              refine T.rg ?_
              refine L.mv rfl rfl ?_
              refine L.nilck rfl rfl ?_
              refine L.fa Tryz.underlying36 rfl s33 rfl rfl ?_
              refine L.fa Tryz.underlying33 rfl s3 rfl rfl ?_
              refine L.sto 1 s3 rfl rfl rfl rfl rfl ?_
              refine L.nil ?_
              refine T.rg ?_
              refine L.mv rfl rfl ?_
              refine L.callO [] [_] [_] rfl e106 rfl rfl (f106 g ps _) ?_
              rintro _ _ ⟨bb, ps2, rfl, rfl⟩
              refine L.as rfl rfl ?_
              refine L.nil ?_
              refine T.ret ?_
              refine G.ret (res1 Tryz.results108 rfl) ?_
              refine ⟨_, ⟨_, _, _, _, _, _, _, _, _, _, _, _⟩, _, rfl, rfl, ?_⟩
              exact ⟨rfl, rfl⟩
            · skip
              refine T.rg ?_
              refine L.eqS rfl rfl rfl ?_
              refine L.as rfl rfl ?_
              refine L.nil ?_
              refine T.cond rfl (fun h87 => ?_) (fun h87 => ?_)
              · skip
                refine T.rg ?_
                refine L.mv rfl rfl ?_
                refine L.nilck rfl rfl ?_
                refine L.fa Tryz.underlying36 rfl s33 rfl rfl ?_
                refine L.fa Tryz.underlying33 rfl s3 rfl rfl ?_
                refine L.sto 1 s3 rfl rfl rfl rfl rfl ?_
                refine L.nil ?_
                refine T.rg ?_
                refine L.mv rfl rfl ?_
                refine L.callO [] [_] [_] rfl e106 rfl rfl (f106 g ps _) ?_
                rintro _ _ ⟨bb, ps2, rfl, rfl⟩
                refine L.as rfl rfl ?_
                refine L.nil ?_
                refine T.ret ?_
                refine G.ret (res1 Tryz.results108 rfl) ?_
                refine ⟨_, ⟨_, _, _, _, _, _, _, _, _, _, _, _⟩, _, rfl, rfl, ?_⟩
                exact ⟨rfl, rfl⟩
              · skip
                refine T.rg ?_
                refine L.as rfl rfl ?_
                refine L.nil ?_
                refine T.ret ?_
                refine G.ret (res1 Tryz.results108 rfl) ?_
                refine ⟨_, ⟨_, _, _, _, _, _, _, _, _, _, _, _⟩, _, rfl, rfl, ?_⟩
                exact ⟨rfl, rfl⟩

set_option maxHeartbeats 8000000 in
theorem f94 (b : Nat) (wd : ByteArray) (h0 : 0 < wd.size) (hw : wd.size ≤ 1000) (g : Nat) (ps : List (ByteArray × Int)) (q : V5) (hat : q.at'.length ≤ 900) (hst : q.st.length ≤ 900) (vc : Value) (cl : List ByteArray) (hcl : cl.length ≤ 900) (c13 : CV) : Fc Tryz.prog 94 [P_ b 0, S_ wd, R_ (.map (some g))] [.row vc 9 1 (strs cl), cntM g ps, .blk b 36 (q.cs (.r vc) c13)] (fun x Ω => ∃ (bb : Bool) (q2 : V5) (vc2 : Value) (cl2 : List ByteArray) (ps2 : List (ByteArray × Int)), x = aB bb ∧ Ω = [.row vc2 9 1 (strs cl2), cntM g ps2, .blk b 36 (q2.cs (.r vc2) c13)] ∧ q2.at'.length ≤ q.at'.length + 1 ∧ q2.st.length ≤ q.st.length + 1 ∧ cl2.length ≤ cl.length + 1) := by
  obtain ⟨kd, tag, id, tx, at2, st, m0, m1, m2, m3, m4, m5⟩ := q
  have hat2 : at2.length ≤ 900 := hat
  have hst2 : st.length ≤ 900 := hst
  refine Fc.enter Tryz.func94 rfl Tryz.ntmps94 rfl fun X w => ?_
  refine T.rg ?_
  refine L.as rfl rfl ?_
  refine L.nil ?_
  refine T.rg ?_
  refine L.mv rfl rfl ?_
  refine L.slS 1 wd.size Tryz.underlying9 rfl ⟨_, rfl⟩ rfl ⟨by omega, Nat.le_refl _⟩ rfl ?_
  obtain ⟨u, hu⟩ : ∃ u, wd.extract 1 wd.size = u := ⟨_, rfl⟩
  have hus : u.size = wd.size - 1 := by rw [← hu, ByteArray.size_extract]; omega
  rw [hu]
  refine L.as rfl rfl ?_
  refine L.nil ?_
  refine T.of_seq ?_
  refine T.rg ?_
  refine L.mv rfl rfl ?_
  refine L.ixS 0 Tryz.underlying9 rfl rfl rfl h0 rfl ?_
  refine L.nil ?_
  refine T.block ?_
  refine T.rg ?_
  refine L.cmp rfl rfl rfl rfl ?_
  refine L.as rfl rfl ?_
  refine L.nil ?_
  refine T.cond rfl (fun h20 => ?_) (fun h20 => ?_)
  · skip
    refine T.rg ?_
    refine L.mv rfl rfl ?_
    refine L.mv rfl rfl ?_
    refine L.nilck rfl rfl ?_
    refine L.fa Tryz.underlying36 rfl s9 rfl rfl ?_
    refine L.sto 2 s9 rfl rfl rfl rfl rfl ?_
    refine L.nil ?_
    refine T.rg ?_
    refine L.mv rfl rfl ?_
    refine L.call e96 rfl rfl (f96 u (by omega)) ?_
    rintro _ _ ⟨rfl, rfl⟩
    refine L.mv rfl rfl ?_
    refine L.caseB 28 rfl (fun h28 => ?_) (fun h28 => ?_)
    · skip
      refine L.on rfl rfl ?_
      refine L.mv rfl rfl ?_
      refine L.on rfl rfl ?_
      refine L.callO [_] [_] [_] rfl e106 rfl rfl (f106 g ps _) ?_
      rintro _ _ ⟨bb, ps2, rfl, rfl⟩
      refine L.pkT rfl rfl rfl ?_
      refine L.as rfl rfl ?_
      refine L.nil ?_
      refine T.ret ?_
      refine G.ret (res1 Tryz.results94 rfl) ?_
      try rw [show strs cl ++ [[D.s u]] = strs (cl ++ [u]) by simp [strs]]
      refine ⟨_, ⟨_, _, _, _, _, _, _, _, _, _, _, _⟩, _, _, _, rfl, rfl, ?_, ?_, ?_⟩ <;> first | exact Nat.le_refl _ | exact Nat.le_succ _ | (simp; done) | (show at3.length ≤ at2.length + 1; rw [show at3 = at2 from h1]; exact Nat.le_succ _) | (show st3.length ≤ st.length + 1; rw [show st3 = st from h2]; exact Nat.le_succ _) | (have h1 := putM_len (ofM at2) (k2, v2); have h2 := ofM_len at2; show (putM _ _).length ≤ at2.length + 1; omega) | (have h1 := putM_len (ofM st) (k2, z); have h2 := ofM_len st; show (putM _ _).length ≤ st.length + 1; omega)
    · skip
      refine L.off rfl rfl rfl rfl ?_
      refine L.off rfl rfl rfl rfl ?_
      refine L.pkF rfl rfl rfl ?_
      refine L.as rfl rfl ?_
      refine L.nil ?_
      refine T.ret ?_
      refine G.ret (res1 Tryz.results94 rfl) ?_
      try rw [show strs cl ++ [[D.s u]] = strs (cl ++ [u]) by simp [strs]]
      refine ⟨_, ⟨_, _, _, _, _, _, _, _, _, _, _, _⟩, _, _, _, rfl, rfl, ?_, ?_, ?_⟩ <;> first | exact Nat.le_refl _ | exact Nat.le_succ _ | (simp; done) | (show at3.length ≤ at2.length + 1; rw [show at3 = at2 from h1]; exact Nat.le_succ _) | (show st3.length ≤ st.length + 1; rw [show st3 = st from h2]; exact Nat.le_succ _) | (have h1 := putM_len (ofM at2) (k2, v2); have h2 := ofM_len at2; show (putM _ _).length ≤ at2.length + 1; omega) | (have h1 := putM_len (ofM st) (k2, z); have h2 := ofM_len st; show (putM _ _).length ≤ st.length + 1; omega)
  · skip
    refine T.rg ?_
    refine L.cmp rfl rfl rfl rfl ?_
    refine L.as rfl rfl ?_
    refine L.nil ?_
    refine T.cond rfl (fun h32 => ?_) (fun h32 => ?_)
    · skip
      refine T.rg ?_
      refine L.mv rfl rfl ?_
      refine L.mv rfl rfl ?_
      refine L.nilck rfl rfl ?_
      refine L.fa Tryz.underlying36 rfl s27 rfl rfl ?_
      refine L.ld 2 o27 rfl rfl rfl rfl ?_
      refine L.mv rfl rfl ?_
      refine L.bsD rfl Tryz.underlying27 i9 rfl rfl rfl rfl rfl ?_
      refine L.app 0 Tryz.underlying27 i9 rfl rfl rfl rfl rfl (by simp [strs]; omega) (by simp [strs]; omega) rfl (fun _ => rfl) fun v41 => ?_
      refine L.nilck rfl rfl ?_
      refine L.fa Tryz.underlying36 rfl s27 rfl rfl ?_
      refine L.sto 2 s27 rfl rfl rfl rfl rfl ?_
      refine L.nil ?_
      refine T.rg ?_
      refine L.mv rfl rfl ?_
      refine L.call e72 rfl rfl (f72 u (by omega)) ?_
      rintro _ _ ⟨rfl, rfl⟩
      refine L.as rfl rfl ?_
      refine L.nil ?_
      refine T.ret ?_
      refine G.ret (res1 Tryz.results94 rfl) ?_
      try rw [show strs cl ++ [[D.s u]] = strs (cl ++ [u]) by simp [strs]]
      refine ⟨_, ⟨_, _, _, _, _, _, _, _, _, _, _, _⟩, _, _, _, rfl, rfl, ?_, ?_, ?_⟩ <;> first | exact Nat.le_refl _ | exact Nat.le_succ _ | (simp; done) | (show at3.length ≤ at2.length + 1; rw [show at3 = at2 from h1]; exact Nat.le_succ _) | (show st3.length ≤ st.length + 1; rw [show st3 = st from h2]; exact Nat.le_succ _) | (have h1 := putM_len (ofM at2) (k2, v2); have h2 := ofM_len at2; show (putM _ _).length ≤ at2.length + 1; omega) | (have h1 := putM_len (ofM st) (k2, z); have h2 := ofM_len st; show (putM _ _).length ≤ st.length + 1; omega)
    · skip
      refine T.rg ?_
      refine L.cmp rfl rfl rfl rfl ?_
      refine L.as rfl rfl ?_
      refine L.nil ?_
      refine T.cond rfl (fun h46 => ?_) (fun h46 => ?_)
      · skip
        refine T.rg ?_
        refine L.mv rfl rfl ?_
        refine L.call e17 rfl rfl (f17c61 u (by omega)) ?_
        rintro _ _ ⟨rfl, k2, v2, ok, rfl, hk2, hv2, hok⟩
        refine L.mv rfl rfl ?_
        refine L.ex rfl rfl rfl ?_
        refine L.ex rfl rfl rfl ?_
        refine L.ex rfl rfl rfl ?_
        refine L.as rfl rfl ?_
        refine L.as rfl rfl ?_
        refine L.as rfl rfl ?_
        refine L.nil ?_
        refine T.rg ?_
        refine L.mv rfl rfl ?_
        refine L.mv rfl rfl ?_
        refine L.nilck rfl rfl ?_
        refine L.fa Tryz.underlying36 rfl s29 rfl rfl ?_
        refine L.ld 2 o29 rfl rfl rfl rfl ?_
        refine L.mv rfl rfl ?_
        refine L.mv rfl rfl ?_
        refine L.call e107 rfl rfl (f107 at2 hat2 k2 v2) ?_
        rintro _ _ ⟨w2, rfl, hM⟩
        refine L.pubM (es := ats (putM (ofM at2) (k2, v2))) 61 rfl (by rw [ats_len]; exact hM) (flat_ats _) ?_
        refine L.nilck rfl rfl ?_
        refine L.fa Tryz.underlying36 rfl s29 rfl rfl ?_
        refine L.sto 2 s29 rfl rfl rfl rfl rfl ?_
        refine L.nil ?_
        refine T.rg ?_
        refine L.mv rfl rfl ?_
        refine L.mv rfl rfl ?_
        refine L.caseB 65 rfl (fun h65 => ?_) (fun h65 => ?_)
        · skip
          refine L.on rfl rfl ?_
          refine L.mv rfl rfl ?_
          refine L.on rfl rfl ?_
          refine L.call e72 rfl rfl (f72 k2 (by omega)) ?_
          rintro _ _ ⟨rfl, rfl⟩
          refine L.pkT rfl rfl rfl ?_
          refine L.mv rfl rfl ?_
          refine L.caseB 69 rfl (fun h69 => ?_) (fun h69 => ?_)
          · skip
            refine L.on rfl rfl ?_
            refine L.mv rfl rfl ?_
            refine L.on rfl rfl ?_
            refine L.call e98 rfl rfl (f98 v2 (by omega)) ?_
            rintro _ _ ⟨rfl, rfl⟩
            refine L.pkT rfl rfl rfl ?_
            refine L.mv rfl rfl ?_
            refine L.caseB 73 rfl (fun h73 => ?_) (fun h73 => ?_)
            · skip
              refine L.on rfl rfl ?_
              refine L.mv rfl rfl ?_
              refine L.on rfl rfl ?_
              refine L.mv rfl rfl ?_
              refine L.on rfl rfl ?_
              refine L.addS rfl rfl (by show 1 + _ ≤ _; omega) rfl ?_
              refine L.on rfl rfl ?_
              refine L.callO [_] [_] [_] rfl e106 rfl rfl (f106 g ps _) ?_
              rintro _ _ ⟨bb, ps2, rfl, rfl⟩
              refine L.pkT rfl rfl rfl ?_
              refine L.as rfl rfl ?_
              refine L.nil ?_
              refine T.ret ?_
              refine G.ret (res1 Tryz.results94 rfl) ?_
              try rw [show strs cl ++ [[D.s u]] = strs (cl ++ [u]) by simp [strs]]
              refine ⟨_, ⟨_, _, _, _, _, _, _, _, _, _, _, _⟩, _, _, _, rfl, rfl, ?_, ?_, ?_⟩ <;> first | exact Nat.le_refl _ | exact Nat.le_succ _ | (simp; done) | (show at3.length ≤ at2.length + 1; rw [show at3 = at2 from h1]; exact Nat.le_succ _) | (show st3.length ≤ st.length + 1; rw [show st3 = st from h2]; exact Nat.le_succ _) | (have h1 := putM_len (ofM at2) (k2, v2); have h2 := ofM_len at2; show (putM _ _).length ≤ at2.length + 1; omega) | (have h1 := putM_len (ofM st) (k2, z); have h2 := ofM_len st; show (putM _ _).length ≤ st.length + 1; omega)
            · skip
              refine L.off rfl rfl rfl rfl ?_
              refine L.off rfl rfl rfl rfl ?_
              refine L.off rfl rfl rfl rfl ?_
              refine L.off rfl rfl rfl rfl ?_
              refine L.pkF rfl rfl rfl ?_
              refine L.as rfl rfl ?_
              refine L.nil ?_
              refine T.ret ?_
              refine G.ret (res1 Tryz.results94 rfl) ?_
              try rw [show strs cl ++ [[D.s u]] = strs (cl ++ [u]) by simp [strs]]
              refine ⟨_, ⟨_, _, _, _, _, _, _, _, _, _, _, _⟩, _, _, _, rfl, rfl, ?_, ?_, ?_⟩ <;> first | exact Nat.le_refl _ | exact Nat.le_succ _ | (simp; done) | (show at3.length ≤ at2.length + 1; rw [show at3 = at2 from h1]; exact Nat.le_succ _) | (show st3.length ≤ st.length + 1; rw [show st3 = st from h2]; exact Nat.le_succ _) | (have h1 := putM_len (ofM at2) (k2, v2); have h2 := ofM_len at2; show (putM _ _).length ≤ at2.length + 1; omega) | (have h1 := putM_len (ofM st) (k2, z); have h2 := ofM_len st; show (putM _ _).length ≤ st.length + 1; omega)
          · skip
            refine L.off rfl rfl rfl rfl ?_
            refine L.off rfl rfl rfl rfl ?_
            refine L.pkF rfl rfl rfl ?_
            refine L.mv rfl rfl ?_
            refine L.off rfl rfl rfl rfl ?_
            refine L.off rfl rfl rfl rfl ?_
            refine L.off rfl rfl rfl rfl ?_
            refine L.off rfl rfl rfl rfl ?_
            refine L.pkF rfl rfl rfl ?_
            refine L.as rfl rfl ?_
            refine L.nil ?_
            refine T.ret ?_
            refine G.ret (res1 Tryz.results94 rfl) ?_
            try rw [show strs cl ++ [[D.s u]] = strs (cl ++ [u]) by simp [strs]]
            refine ⟨_, ⟨_, _, _, _, _, _, _, _, _, _, _, _⟩, _, _, _, rfl, rfl, ?_, ?_, ?_⟩ <;> first | exact Nat.le_refl _ | exact Nat.le_succ _ | (simp; done) | (show at3.length ≤ at2.length + 1; rw [show at3 = at2 from h1]; exact Nat.le_succ _) | (show st3.length ≤ st.length + 1; rw [show st3 = st from h2]; exact Nat.le_succ _) | (have h1 := putM_len (ofM at2) (k2, v2); have h2 := ofM_len at2; show (putM _ _).length ≤ at2.length + 1; omega) | (have h1 := putM_len (ofM st) (k2, z); have h2 := ofM_len st; show (putM _ _).length ≤ st.length + 1; omega)
        · skip
          refine L.off rfl rfl rfl rfl ?_
          refine L.off rfl rfl rfl rfl ?_
          refine L.pkF rfl rfl rfl ?_
          refine L.mv rfl rfl ?_
          refine L.off rfl rfl rfl rfl ?_
          refine L.off rfl rfl rfl rfl ?_
          refine L.pkF rfl rfl rfl ?_
          refine L.mv rfl rfl ?_
          refine L.off rfl rfl rfl rfl ?_
          refine L.off rfl rfl rfl rfl ?_
          refine L.off rfl rfl rfl rfl ?_
          refine L.off rfl rfl rfl rfl ?_
          refine L.pkF rfl rfl rfl ?_
          refine L.as rfl rfl ?_
          refine L.nil ?_
          refine T.ret ?_
          refine G.ret (res1 Tryz.results94 rfl) ?_
          try rw [show strs cl ++ [[D.s u]] = strs (cl ++ [u]) by simp [strs]]
          refine ⟨_, ⟨_, _, _, _, _, _, _, _, _, _, _, _⟩, _, _, _, rfl, rfl, ?_, ?_, ?_⟩ <;> first | exact Nat.le_refl _ | exact Nat.le_succ _ | (simp; done) | (show at3.length ≤ at2.length + 1; rw [show at3 = at2 from h1]; exact Nat.le_succ _) | (show st3.length ≤ st.length + 1; rw [show st3 = st from h2]; exact Nat.le_succ _) | (have h1 := putM_len (ofM at2) (k2, v2); have h2 := ofM_len at2; show (putM _ _).length ≤ at2.length + 1; omega) | (have h1 := putM_len (ofM st) (k2, z); have h2 := ofM_len st; show (putM _ _).length ≤ st.length + 1; omega)
      · skip
        refine T.rg ?_
        refine L.cmp rfl rfl rfl rfl ?_
        refine L.as rfl rfl ?_
        refine L.nil ?_
        refine T.cond rfl (fun h79 => ?_) (fun h79 => ?_)
        · skip
          refine T.rg ?_
          refine L.mv rfl rfl ?_
          refine L.mv rfl rfl ?_
          refine L.mv rfl rfl ?_
          refine L.callO [_] [_, _] [] rfl e108 rfl rfl (f108 b u (by omega) g ps ⟨kd, tag, id, tx, at2, st, m0, m1, m2, m3, m4, m5⟩ (.r vc) c13) ?_
          rintro _ _ ⟨bb, ⟨kd2, tag2, id2, tx2, at3, st3, n0, n1, n2, n3, n4, n5⟩, ps2, rfl, rfl, h1, h2⟩
          refine L.as rfl rfl ?_
          refine L.nil ?_
          refine T.ret ?_
          refine G.ret (res1 Tryz.results94 rfl) ?_
          try rw [show strs cl ++ [[D.s u]] = strs (cl ++ [u]) by simp [strs]]
          refine ⟨_, ⟨_, _, _, _, _, _, _, _, _, _, _, _⟩, _, _, _, rfl, rfl, ?_, ?_, ?_⟩ <;> first | exact Nat.le_refl _ | exact Nat.le_succ _ | (simp; done) | (show at3.length ≤ at2.length + 1; rw [show at3 = at2 from h1]; exact Nat.le_succ _) | (show st3.length ≤ st.length + 1; rw [show st3 = st from h2]; exact Nat.le_succ _) | (have h1 := putM_len (ofM at2) (k2, v2); have h2 := ofM_len at2; show (putM _ _).length ≤ at2.length + 1; omega) | (have h1 := putM_len (ofM st) (k2, z); have h2 := ofM_len st; show (putM _ _).length ≤ st.length + 1; omega)
        · skip
          refine T.skip ?_
          refine T.go (fun _ _ h => h) ?_
          refine T.rg ?_
          refine L.mv rfl rfl ?_
          refine L.call e17 rfl rfl (f17c61 wd (by omega)) ?_
          rintro _ _ ⟨rfl, k2, v2, ok, rfl, hk2, hv2, hok⟩
          refine L.mv rfl rfl ?_
          refine L.ex rfl rfl rfl ?_
          refine L.ex rfl rfl rfl ?_
          refine L.ex rfl rfl rfl ?_
          refine L.as rfl rfl ?_
          refine L.as rfl rfl ?_
          refine L.as rfl rfl ?_
          refine L.nil ?_
          refine T.rg ?_
          refine L.mv rfl rfl ?_
          refine L.call e46 rfl rfl (f46w v2 (by omega)) ?_
          rintro _ _ ⟨rfl, z, okz, rfl⟩
          refine L.mv rfl rfl ?_
          refine L.ex rfl rfl rfl ?_
          refine L.ex rfl rfl rfl ?_
          refine L.as rfl rfl ?_
          refine L.as rfl rfl ?_
          refine L.nil ?_
          refine T.rg ?_
          refine L.mv rfl rfl ?_
          refine L.mv rfl rfl ?_
          refine L.nilck rfl rfl ?_
          refine L.fa Tryz.underlying36 rfl s31 rfl rfl ?_
          refine L.ld 2 o31 rfl rfl rfl rfl ?_
          refine L.mv rfl rfl ?_
          refine L.mv rfl rfl ?_
          refine L.call e109 rfl rfl (f109 st hst2 k2 z) ?_
          rintro _ _ ⟨w2, rfl, hM⟩
          refine L.pubM (es := prs (putM (ofM st) (k2, z))) 103 rfl (by rw [prs_len]; exact hM) (flat_prs _) ?_
          refine L.nilck rfl rfl ?_
          refine L.fa Tryz.underlying36 rfl s31 rfl rfl ?_
          refine L.sto 2 s31 rfl rfl rfl rfl rfl ?_
          refine L.nil ?_
          refine T.rg ?_
          refine L.mv rfl rfl ?_
          refine L.mv rfl rfl ?_
          refine L.caseB 107 rfl (fun h107 => ?_) (fun h107 => ?_)
          · skip
            refine L.on rfl rfl ?_
            refine L.mv rfl rfl ?_
            refine L.pkT rfl rfl rfl ?_
            refine L.mv rfl rfl ?_
            refine L.caseB 110 rfl (fun h110 => ?_) (fun h110 => ?_)
            · skip
              refine L.on rfl rfl ?_
              refine L.mv rfl rfl ?_
              refine L.on rfl rfl ?_
              refine L.call e72 rfl rfl (f72 k2 (by omega)) ?_
              rintro _ _ ⟨rfl, rfl⟩
              refine L.pkT rfl rfl rfl ?_
              refine L.mv rfl rfl ?_
              refine L.caseB 114 rfl (fun h114 => ?_) (fun h114 => ?_)
              · skip
                refine L.on rfl rfl ?_
                refine L.mv rfl rfl ?_
                refine L.on rfl rfl ?_
                refine L.mv rfl rfl ?_
                refine L.on rfl rfl ?_
                refine L.addS rfl rfl (by show 1 + _ ≤ _; omega) rfl ?_
                refine L.on rfl rfl ?_
                refine L.callO [_] [_] [_] rfl e106 rfl rfl (f106 g ps _) ?_
                rintro _ _ ⟨bb, ps2, rfl, rfl⟩
                refine L.pkT rfl rfl rfl ?_
                refine L.as rfl rfl ?_
                refine L.nil ?_
                refine T.ret ?_
                refine G.ret (res1 Tryz.results94 rfl) ?_
                try rw [show strs cl ++ [[D.s u]] = strs (cl ++ [u]) by simp [strs]]
                refine ⟨_, ⟨_, _, _, _, _, _, _, _, _, _, _, _⟩, _, _, _, rfl, rfl, ?_, ?_, ?_⟩ <;> first | exact Nat.le_refl _ | exact Nat.le_succ _ | (simp; done) | (show at3.length ≤ at2.length + 1; rw [show at3 = at2 from h1]; exact Nat.le_succ _) | (show st3.length ≤ st.length + 1; rw [show st3 = st from h2]; exact Nat.le_succ _) | (have h1 := putM_len (ofM at2) (k2, v2); have h2 := ofM_len at2; show (putM _ _).length ≤ at2.length + 1; omega) | (have h1 := putM_len (ofM st) (k2, z); have h2 := ofM_len st; show (putM _ _).length ≤ st.length + 1; omega)
              · skip
                refine L.off rfl rfl rfl rfl ?_
                refine L.off rfl rfl rfl rfl ?_
                refine L.off rfl rfl rfl rfl ?_
                refine L.off rfl rfl rfl rfl ?_
                refine L.pkF rfl rfl rfl ?_
                refine L.as rfl rfl ?_
                refine L.nil ?_
                refine T.ret ?_
                refine G.ret (res1 Tryz.results94 rfl) ?_
                try rw [show strs cl ++ [[D.s u]] = strs (cl ++ [u]) by simp [strs]]
                refine ⟨_, ⟨_, _, _, _, _, _, _, _, _, _, _, _⟩, _, _, _, rfl, rfl, ?_, ?_, ?_⟩ <;> first | exact Nat.le_refl _ | exact Nat.le_succ _ | (simp; done) | (show at3.length ≤ at2.length + 1; rw [show at3 = at2 from h1]; exact Nat.le_succ _) | (show st3.length ≤ st.length + 1; rw [show st3 = st from h2]; exact Nat.le_succ _) | (have h1 := putM_len (ofM at2) (k2, v2); have h2 := ofM_len at2; show (putM _ _).length ≤ at2.length + 1; omega) | (have h1 := putM_len (ofM st) (k2, z); have h2 := ofM_len st; show (putM _ _).length ≤ st.length + 1; omega)
            · skip
              refine L.off rfl rfl rfl rfl ?_
              refine L.off rfl rfl rfl rfl ?_
              refine L.pkF rfl rfl rfl ?_
              refine L.mv rfl rfl ?_
              refine L.off rfl rfl rfl rfl ?_
              refine L.off rfl rfl rfl rfl ?_
              refine L.off rfl rfl rfl rfl ?_
              refine L.off rfl rfl rfl rfl ?_
              refine L.pkF rfl rfl rfl ?_
              refine L.as rfl rfl ?_
              refine L.nil ?_
              refine T.ret ?_
              refine G.ret (res1 Tryz.results94 rfl) ?_
              try rw [show strs cl ++ [[D.s u]] = strs (cl ++ [u]) by simp [strs]]
              refine ⟨_, ⟨_, _, _, _, _, _, _, _, _, _, _, _⟩, _, _, _, rfl, rfl, ?_, ?_, ?_⟩ <;> first | exact Nat.le_refl _ | exact Nat.le_succ _ | (simp; done) | (show at3.length ≤ at2.length + 1; rw [show at3 = at2 from h1]; exact Nat.le_succ _) | (show st3.length ≤ st.length + 1; rw [show st3 = st from h2]; exact Nat.le_succ _) | (have h1 := putM_len (ofM at2) (k2, v2); have h2 := ofM_len at2; show (putM _ _).length ≤ at2.length + 1; omega) | (have h1 := putM_len (ofM st) (k2, z); have h2 := ofM_len st; show (putM _ _).length ≤ st.length + 1; omega)
          · skip
            refine L.off rfl rfl rfl rfl ?_
            refine L.pkF rfl rfl rfl ?_
            refine L.mv rfl rfl ?_
            refine L.off rfl rfl rfl rfl ?_
            refine L.off rfl rfl rfl rfl ?_
            refine L.pkF rfl rfl rfl ?_
            refine L.mv rfl rfl ?_
            refine L.off rfl rfl rfl rfl ?_
            refine L.off rfl rfl rfl rfl ?_
            refine L.off rfl rfl rfl rfl ?_
            refine L.off rfl rfl rfl rfl ?_
            refine L.pkF rfl rfl rfl ?_
            refine L.as rfl rfl ?_
            refine L.nil ?_
            refine T.ret ?_
            refine G.ret (res1 Tryz.results94 rfl) ?_
            try rw [show strs cl ++ [[D.s u]] = strs (cl ++ [u]) by simp [strs]]
            refine ⟨_, ⟨_, _, _, _, _, _, _, _, _, _, _, _⟩, _, _, _, rfl, rfl, ?_, ?_, ?_⟩ <;> first | exact Nat.le_refl _ | exact Nat.le_succ _ | (simp; done) | (show at3.length ≤ at2.length + 1; rw [show at3 = at2 from h1]; exact Nat.le_succ _) | (show st3.length ≤ st.length + 1; rw [show st3 = st from h2]; exact Nat.le_succ _) | (have h1 := putM_len (ofM at2) (k2, v2); have h2 := ofM_len at2; show (putM _ _).length ≤ at2.length + 1; omega) | (have h1 := putM_len (ofM st) (k2, z); have h2 := ofM_len st; show (putM _ _).length ≤ st.length + 1; omega)
end Go.Proofs.YtimimkdgofiloaaGreatDoor
