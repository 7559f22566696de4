/- A line's numbers; its words. Printed by gen.py. -/
import Derived.Test.YtimimkdgofiloaaGreatDoorS52
namespace Go.Proofs.YtimimkdgofiloaaGreatDoor
open Go Go.Q
abbrev nilV : Value := .slice none 0 0
theorem ints_append (a b : List Int) : ints (a ++ b) = ints a ++ ints b := by simp [ints]
/-- The numbers that fields are: all, and none below 0. -/
def NumsOf (fs : List (List UInt8)) (ns : List Int) : Prop := fs.map numW = ns.map some ∧ ∀ n ∈ ns, 0 ≤ n
def NoNums (fs : List (List UInt8)) : Prop := ∃ f ∈ fs, ∀ n, numW f = some n → n < 0
theorem NumsOf.snoc {fs : List (List UInt8)} {k : Nat} {ns : List Int} (h : NumsOf (fs.take k) ns) (hk : k < fs.length) {n : Int} (hn : numW fs[k] = some n) (h0 : 0 ≤ n) : NumsOf (fs.take (k + 1)) (ns ++ [n]) := by
  refine ⟨?_, fun m hm => ?_⟩
  · rw [List.take_add_one, List.getElem?_eq_getElem hk, List.map_append, List.map_append, h.1]
    simp [hn]
  · rcases List.mem_append.1 hm with h1 | h1
    · exact h.2 m h1
    · obtain rfl := List.mem_singleton.1 h1; exact h0
theorem NumsOf.len {fs : List (List UInt8)} {ns : List Int} (h : NumsOf fs ns) : ns.length = fs.length := by have := congrArg List.length h.1; simpa using this.symm
theorem splitL_le (l : List UInt8) : (splitL l).length ≤ l.length + 1 := by rw [splitL_len]; have : Lib.countByte l 32 ≤ l.length := List.count_le_length; omega
theorem fieldsL_le (l : List UInt8) : (fieldsL l).length ≤ l.length + 1 := Nat.le_trans (List.length_filter_le _ _) (splitL_le l)
theorem splitL_mem : ∀ {l : List UInt8} {f : List UInt8}, f ∈ splitL l → f.length ≤ l.length
  | [], f, h => by simp [splitL] at h; subst h; simp
  | c :: l, f, h => by
    rw [splitL] at h
    by_cases hc : c = 32
    · rw [if_pos hc] at h
      rcases List.mem_cons.1 h with rfl | h1
      · simp
      · have := splitL_mem h1; simp; omega
    · rw [if_neg hc] at h
      cases hs : splitL l with
      | nil => exact absurd hs (splitL_ne l)
      | cons a t =>
        rw [hs] at h
        rcases List.mem_cons.1 h with rfl | h1
        · have := splitL_mem (l := l) (f := a) (by rw [hs]; simp); simp; omega
        · have := splitL_mem (l := l) (f := f) (by rw [hs]; simp [h1]); simp; omega
theorem fieldsL_mem {l f : List UInt8} (h : f ∈ fieldsL l) : f.length ≤ l.length := splitL_mem (List.mem_filter.1 h).1
set_option maxHeartbeats 2000000 in
theorem f30 (l : List UInt8) (hl : l.length ≤ 1000000) : Fc Tryz.prog 30 [S_ (mkB l)] [] (fun x Ω => Ω = [] ∧ ((∃ ns, NumsOf (fieldsL l) ns ∧ x = .t [L_ 1 (ints ns), Bo true]) ∨ (NoNums (fieldsL l) ∧ x = .t [L_ 1 [], Bo false]))) := by
  refine Fc.enter Tryz.func30 rfl Tryz.ntmps30 rfl fun X w => ?_
  refine T.rg ?_
  refine L.alloc z22 rfl rfl fun b2 => ?_
  refine L.alloc z4 rfl rfl fun b3 => ?_
  refine L.nil ?_
  refine T.rg ?_
  refine L.alloc z22 rfl rfl fun b4 => ?_
  refine L.nil ?_
  refine T.of_seq ?_
  refine T.rg ?_
  refine L.mv rfl rfl ?_
  refine L.call e45 rfl rfl (f45 l) ?_
  rintro _ _ ⟨b, rfl, rfl⟩
  have hfl := fieldsL_le l
  refine L.nil ?_
  refine T.block ?_
  refine T.conv (nil_row 3 1) ?_
  refine T.conv (fun w hs => hs.perm (List.Perm.swap _ _ _)) ?_
  obtain ⟨J1, hJ1⟩ : ∃ J1 : Nat → List Ob → Prop, J1 = (fun k Ω => ∃ (ns : List Int) (v : Value), NumsOf ((fieldsL l).take k) ns ∧ Ω = [.row v 3 1 (ints ns), .blk b4 22 [.r v], .blk b3 4 [.d (.b false)], .blk b2 22 [.r nilV]]) := ⟨_, rfl⟩
  obtain ⟨Jx1, hJx1⟩ : ∃ J1 : Code → List Ob → Prop, J1 = (fun c Ω => c = .ret ∧ NoNums (fieldsL l) ∧ ∃ (ns : List Int) (v : Value), Ω = [.row v 3 1 (ints ns), .blk b4 22 [.r v], .blk b3 4 [.d (.b false)], .blk b2 22 [.r nilV]]) := ⟨_, rfl⟩
  refine T.rangeFunc (Ωi := [.blk b 9 [.d (.s (mkB l))]]) (N := (fieldsL l).length) (el := fun k => [S_ (mkB ((fieldsL l).getD k []))]) (caps := [.pointer (some ⟨b, 0, none⟩)]) rfl rfl e74 rfl (iter74 l hl b) [(4, aP b4 0), (3, aP b3 0), (2, aP b2 0)] ⟨rfl, rfl, rfl, trivial⟩ rfl rfl (by decide) (fun _ _ => rfl) J1 Jx1 (by rw [hJ1]; exact ⟨[], _, ⟨rfl, by simp⟩, rfl⟩) (fun k σ1 Ω1 => σ1 = [(5, aS (mkB ((fieldsL l).getD k []))), (4, aP b4 0), (3, aP b3 0), (2, aP b2 0)] ∧ J1 k Ω1) ?_ ?_ ?_ ?_
  · intro Cr k Ωu hds hk hJ
    refine T.region ?_
    refine L.as rfl rfl ?_
    refine L.last ?_
    exact G.ap _ ⟨rfl, hJ⟩ (by repeat constructor)
  · rintro Cr k σ1 Ω1 hds hk2 ⟨rfl, hJk⟩
    rw [hJ1] at hJk
    obtain ⟨ns, v, hns, rfl⟩ := hJk
    have hgd : (fieldsL l).getD k [] = (fieldsL l)[k] := by rw [List.getD_eq_getElem?_getD, List.getElem?_eq_getElem hk2]; rfl
    have hfm := fieldsL_mem (List.getElem_mem hk2)
    have hnl := hns.len
    rw [List.length_take] at hnl
    rw [hgd]
    refine T.block ?_
    refine T.rg ?_
    refine L.mv rfl rfl ?_
    refine L.call e46 rfl rfl (f46 (fieldsL l)[k] (by omega)) ?_
    rintro _ _ ⟨rfl, rfl⟩
    refine L.mv rfl rfl ?_
    refine L.ex rfl rfl rfl ?_
    refine L.ex rfl rfl rfl ?_
    refine L.as rfl rfl ?_
    refine L.as rfl rfl ?_
    refine L.nil ?_
    refine T.of_seq ?_
    refine T.rg ?_
    refine L.mv rfl rfl ?_
    refine L.not rfl rfl ?_
    refine L.mv rfl rfl ?_
    refine L.caseB 18 rfl (fun h18 => ?_) (fun h18 => ?_)
    · skip
      have hbad : NoNums (fieldsL l) := by
        refine ⟨_, List.getElem_mem hk2, fun n hn => ?_⟩
        rw [hn] at h18; cases h18
      refine L.off rfl rfl rfl rfl ?_
      refine L.off rfl rfl rfl rfl ?_
      refine L.pkT rfl rfl rfl ?_
      refine L.nil ?_
      refine T.condT rfl ?_
      refine T.rg ?_
      refine L.sto 3 s22 rfl rfl rfl rfl rfl ?_
      refine L.sto 2 s4 rfl rfl rfl rfl rfl ?_
      refine L.nil ?_
      refine T.ret ?_
      refine G.rpRet (J := J1 (k + 1)) (Jx := Jx1) ?_
      rw [hJx1]
      exact ⟨rfl, hbad, ns, v, rfl⟩
    · skip
      obtain ⟨n, hn⟩ : ∃ n, numW (fieldsL l)[k] = some n := by
        cases hw : numW (fieldsL l)[k] with
        | none => rw [hw] at h18; cases h18
        | some n => exact ⟨n, rfl⟩
      rw [hn]
      refine L.on rfl rfl ?_
      refine L.mv rfl rfl ?_
      refine L.on rfl rfl ?_
      refine L.cmp rfl rfl rfl rfl ?_
      refine L.pkF rfl rfl rfl ?_
      refine L.nil ?_
      refine T.cond rfl (fun h21 => ?_) (fun h21 => ?_)
      · skip
        have hbad : NoNums (fieldsL l) := ⟨_, List.getElem_mem hk2, fun m hm => by rw [hn] at hm; cases hm; exact of_decide_eq_true h21⟩
        refine T.rg ?_
        refine L.sto 3 s22 rfl rfl rfl rfl rfl ?_
        refine L.sto 2 s4 rfl rfl rfl rfl rfl ?_
        refine L.nil ?_
        refine T.ret ?_
        refine G.rpRet (J := J1 (k + 1)) (Jx := Jx1) ?_
        rw [hJx1]
        exact ⟨rfl, hbad, ns, v, rfl⟩
      · skip
        have h0 : 0 ≤ n := by have := of_decide_eq_false h21; simp at this; omega
        refine T.skip ?_
        refine T.go (fun _ _ h => h) ?_
        refine T.region ?_
        refine L.ld 1 o22 rfl rfl rfl rfl ?_
        refine L.mv rfl rfl ?_
        refine L.bsD rfl Tryz.underlying22 i3 rfl rfl rfl rfl rfl ?_
        refine L.app 0 Tryz.underlying22 i3 rfl rfl rfl rfl rfl (by rw [ints_len]; simp; omega) (by rw [ints_len]; simp; omega) rfl (fun _ => rfl) fun v25 => ?_
        refine L.sto 1 s22 rfl rfl rfl rfl rfl ?_
        refine L.last ?_
        refine G.rp (J := J1 (k + 1)) (Jx := Jx1) ?_
        rw [hJ1]
        exact ⟨ns ++ [n], v25, hns.snoc hk2 hn h0, by rw [ints_append]; rfl⟩
  · rintro D ΩN hJN
    rw [hJ1] at hJN
    obtain ⟨ns, v, hns, rfl⟩ := hJN
    rw [List.take_of_length_le (Nat.le_refl _)] at hns
    refine T.go (fun _ _ h => h) ?_
    refine T.rg ?_
    refine L.ld 3 o22 rfl rfl rfl rfl ?_
    refine L.sto 5 s22 rfl rfl rfl rfl rfl ?_
    refine L.sto 4 s4 rfl rfl rfl rfl rfl ?_
    refine L.nil ?_
    refine T.ret ?_
    refine G.conv (drop_at (i := 1) rfl rfl) ?_
    refine G.conv (drop_at (i := 2) rfl rfl) ?_
    refine G.conv (cell_pub (j := 3) (o := 0) (i := 1) (sz := 1) rfl rfl rfl rfl rfl rfl) ?_
    exact G.retMW (A := []) (B := [_, _]) drop2 (resC1C1 (i := 1) (j := 0) Tryz.results30 rfl o22 rfl rfl o4 rfl) ⟨rfl, .inl ⟨ns, hns, rfl⟩⟩
  · intro D c Ωx hjx
    rw [hJx1] at hjx
    obtain ⟨rfl, hno, ns, v, rfl⟩ := hjx
    refine T.ret ?_
    refine G.conv (drop_at (i := 1) rfl rfl) ?_
    refine G.conv (drop_at (i := 1) rfl rfl) ?_
    refine G.conv (drop_at (i := 1) rfl rfl) ?_
    refine G.conv (nil_row 3 1) ?_
    refine G.conv (cell_pub (j := 3) (o := 0) (i := 0) (sz := 1) rfl rfl rfl rfl rfl rfl) ?_
    exact G.retMW (A := []) (B := [_, _]) drop2 (resC1C1 (i := 1) (j := 0) Tryz.results30 rfl o22 rfl rfl o4 rfl) ⟨rfl, .inr ⟨hno, rfl⟩⟩
end Go.Proofs.YtimimkdgofiloaaGreatDoor
