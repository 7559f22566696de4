/- A text split at blanks; its fields, one by one. Printed by gen.py. -/
import Derived.Test.YtimimkdgofiloaaGreatDoorS50
namespace Go.Proofs.YtimimkdgofiloaaGreatDoor
open Go Go.Q
def rowS (done : List (List UInt8)) (k : Nat) : List (List D) := strs (done.map mkB) ++ List.replicate k [D.s ⟨#[]⟩]
theorem rowS_len (done : List (List UInt8)) (k : Nat) : (rowS done k).length = done.length + k := by simp [rowS]
theorem row_set {done : List (List UInt8)} {i k : Nat} (x : List UInt8) (hi : done.length = i) : (rowS done (k + 1)).set i [D.s (mkB x)] = rowS (done ++ [x]) k := by
  subst hi
  unfold rowS strs
  rw [List.set_append_right _ _ (by simp)]
  simp [List.replicate_succ]
theorem row_all (done : List (List UInt8)) {k : Nat} (h : done.length = k) (m : Nat) : ((rowS done m).drop 0).take (k - 0) = strs (done.map mkB) := by
  subst h
  unfold rowS
  rw [List.drop_zero, Nat.sub_zero, List.take_append_of_le_length (by simp), List.take_of_length_le (by simp)]
theorem neF (l : List UInt8) : (!decide (mkB l = ⟨#[]⟩)) = !l.isEmpty := by
  cases l with
  | nil => rfl
  | cons c l =>
    have : ¬ mkB (c :: l) = ⟨#[]⟩ := by rw [← mkB_nil, mkB_inj]; simp
    rw [decide_eq_false this]; rfl
theorem fld_get {L : List (List UInt8)} {q : Nat} (h : q < L.length) (hne : (!L[q].isEmpty) = true) : ((L.take q).filter fun f => !f.isEmpty).length < (L.filter fun f => !f.isEmpty).length ∧ (L.filter fun f => !f.isEmpty).getD ((L.take q).filter fun f => !f.isEmpty).length [] = L[q] := by
  have e : L.filter (fun f => !f.isEmpty) = (L.take q).filter (fun f => !f.isEmpty) ++ L[q] :: (L.drop (q + 1)).filter (fun f => !f.isEmpty) := by
    conv => lhs; rw [← List.take_append_drop q L, List.filter_append, List.drop_eq_getElem_cons h, List.filter_cons_of_pos (p := fun f : List UInt8 => !f.isEmpty) hne]
  rw [e]
  refine ⟨by simp, ?_⟩
  rw [List.getD_eq_getElem?_getD, List.getElem?_append_right (Nat.le_refl _), Nat.sub_self]; rfl
theorem fld_yes {L : List (List UInt8)} {q : Nat} (h : q < L.length) (hne : (!L[q].isEmpty) = true) : ((L.take (q + 1)).filter fun f => !f.isEmpty).length = ((L.take q).filter fun f => !f.isEmpty).length + 1 := by
  rw [List.take_add_one, List.getElem?_eq_getElem h, List.filter_append]
  simp only [Option.toList, List.filter_cons, hne, if_true, List.filter_nil, List.length_append]; rfl
theorem fld_no {L : List (List UInt8)} {q : Nat} (h : q < L.length) (hne : (!L[q].isEmpty) = false) : ((L.take (q + 1)).filter fun f => !f.isEmpty).length = ((L.take q).filter fun f => !f.isEmpty).length := by
  rw [List.take_add_one, List.getElem?_eq_getElem h, List.filter_append]
  simp only [Option.toList, List.filter_cons, hne, Bool.false_eq_true, if_false, List.filter_nil, List.append_nil]
set_option maxHeartbeats 2000000 in
theorem f100 (l : List UInt8) (hl : l.length ≤ 1000000) : Fc Tryz.prog 100 [S_ (mkB l), S_ blB, N_ 0, N_ (-1)] [] (Just (aL 1 (strs ((splitL l).map mkB)))) := by
  have hcl : Lib.countByte l 32 ≤ l.length := List.count_le_length
  refine Fc.enter Tryz.func100 rfl Tryz.ntmps100 rfl fun X w => ?_
  refine T.rg ?_
  refine L.as rfl rfl ?_
  refine L.nil ?_
  refine T.of_seq ?_
  refine T.rg ?_
  refine L.mv rfl rfl ?_
  refine L.cmp rfl rfl rfl rfl ?_
  refine L.setB (t := 13) (b' := false) rfl (by decide) ?_
  refine L.nil ?_
  refine T.condF rfl ?_
  refine T.skip ?_
  refine T.go (fun _ _ h => h) ?_
  refine T.of_seq ?_
  refine T.rg ?_
  refine L.mv rfl rfl ?_
  refine L.eqS rfl rfl rfl ?_
  refine L.setB (t := 15) (b' := false) rfl (by decide) ?_
  refine L.nil ?_
  refine T.condF rfl ?_
  refine T.skip ?_
  refine T.go (fun _ _ h => h) ?_
  refine T.of_seq ?_
  refine T.rg ?_
  refine L.mv rfl rfl ?_
  refine L.cmp rfl rfl rfl rfl ?_
  refine L.setB (t := 20) (b' := true) rfl (by decide) ?_
  refine L.nil ?_
  refine T.condT rfl ?_
  refine T.region ?_
  refine L.mv rfl rfl ?_
  refine L.mv rfl rfl ?_
  refine L.call e114 rfl rfl (f114 l) ?_
  rintro _ _ ⟨rfl, rfl⟩
  refine L.ar (((Lib.countByte l 32) + 1 : Nat) : Int) rfl rfl rfl (by omega) rfl ?_
  refine L.as rfl rfl ?_
  refine L.last ?_
  refine T.go (fun _ _ h => h) ?_
  refine T.rg ?_
  refine L.mv rfl rfl ?_
  refine L.mv rfl rfl ?_
  refine L.lenS Tryz.underlying9 rfl rfl ?_
  rw [mkB_size]
  refine L.ar ((l.length + 1 : Nat) : Int) rfl rfl rfl (by omega) rfl ?_
  refine L.min2 rfl rfl rfl ?_
  refine L.setV (t := 29) (y := aN (((Lib.countByte l 32) + 1 : Nat) : Int)) rfl (by rw [if_neg (by omega)]) ?_
  refine L.as rfl rfl ?_
  refine L.nil ?_
  refine T.rg ?_
  refine L.mv rfl rfl ?_
  refine L.mk Tryz.underlying27 i9 rfl rfl rfl rfl (by omega) (by omega) rfl fun b31 => ?_
  refine L.as rfl rfl ?_
  refine L.nil ?_
  refine T.rg ?_
  refine L.mv rfl rfl ?_
  refine L.ar (((Lib.countByte l 32) : Nat) : Int) rfl rfl rfl (by omega) rfl ?_
  refine L.as rfl rfl ?_
  refine L.nil ?_
  refine T.rg ?_
  refine L.as rfl rfl ?_
  refine L.nil ?_
  refine T.of_seq ?_
  refine T.block ?_
  refine T.loop (fun m σ Ω => ∃ (i : Nat) (done : List (List UInt8)) (rest : List UInt8), i ≤ (Lib.countByte l 32) ∧ m = (Lib.countByte l 32) - i ∧ done.length = i ∧ splitL l = done ++ splitL rest ∧ rest.length ≤ l.length ∧ σ = [(10, aN i), (9, aR (slV b31 0 ((Lib.countByte l 32) + 1) ((Lib.countByte l 32) + 1))), (3, aN ((Lib.countByte l 32) : Nat)), (2, aN 0), (1, aS blB), (0, aS (mkB rest))] ∧ Ω = [.row (slV b31 0 ((Lib.countByte l 32) + 1) ((Lib.countByte l 32) + 1)) 9 1 (rowS done ((Lib.countByte l 32) + 1 - i))]) ((Lib.countByte l 32)) _ (⟨0, [], l, Nat.zero_le _, rfl, rfl, rfl, Nat.le_refl _, rfl, rfl⟩) (by repeat constructor) ?_
  rintro m σ Ω ⟨i, done, rest, hi, rfl, hdl, hsp, hrl, rfl, rfl⟩
  have hsl := splitL_len l
  have hsr := splitL_len rest
  have hcr : Lib.countByte rest 32 = (Lib.countByte l 32) - i := by have := congrArg List.length hsp; rw [List.length_append, hsl, hsr, hdl] at this; omega
  refine T.of_seq ?_
  refine T.rg ?_
  refine L.mv rfl rfl ?_
  refine L.mv rfl rfl ?_
  refine L.cmp rfl rfl rfl rfl ?_
  refine L.nil ?_
  refine T.cond rfl (fun h36 => ?_) (fun h36 => ?_)
  · skip
    have hlt : i < (Lib.countByte l 32) := by have := of_decide_eq_true h36; omega
    obtain ⟨m, hm, hml, hr1, hr2⟩ : ∃ m : Nat, Lib.indexByte rest 32 = (m : Int) ∧ m < rest.length ∧ rest = rest.take m ++ 32 :: rest.drop (m + 1) ∧ 32 ∉ rest.take m := by
      rcases idx32 rest with ⟨_, hn⟩ | h
      · exfalso
        have : Lib.countByte rest 32 = 0 := List.count_eq_zero.2 hn
        omega
      · exact h
    have hrs : splitL rest = rest.take m :: splitL (rest.drop (m + 1)) := by conv => lhs; rw [hr1, splitL_app hr2]
    refine T.skip ?_
    refine T.go (fun _ _ h => h) ?_
    refine T.block ?_
    refine T.rg ?_
    refine L.mv rfl rfl ?_
    refine L.mv rfl rfl ?_
    refine L.call e115 rfl rfl (f115 rest) ?_
    rintro _ _ ⟨rfl, rfl⟩
    rw [hm]
    refine L.as rfl rfl ?_
    refine L.nil ?_
    refine T.of_seq ?_
    refine T.rg ?_
    refine L.mv rfl rfl ?_
    refine L.cmp rfl rfl rfl rfl ?_
    refine L.setB (t := 41) (b' := false) rfl (decide_eq_false (by omega)) ?_
    refine L.nil ?_
    refine T.condF rfl ?_
    refine T.skip ?_
    refine T.go (fun _ _ h => h) ?_
    refine T.rg ?_
    refine L.mv rfl rfl ?_
    refine L.mv rfl rfl ?_
    refine L.mv rfl rfl ?_
    refine L.mv rfl rfl ?_
    refine L.mv rfl rfl ?_
    refine L.ar (m : Int) rfl rfl rfl (by omega) rfl ?_
    refine L.slS 0 m Tryz.underlying9 rfl rfl ⟨_, rfl⟩ ⟨by omega, by rw [mkB_size]; omega⟩ rfl ?_
    rw [take_ext]
    refine L.ixR i Tryz.underlying27 s9 rfl rfl rfl (by omega) rfl ?_
    refine L.stR (i := 0) s9 rfl rfl rfl (by rw [rowS_len]; omega) rfl ?_
    rw [show (Lib.countByte l 32) + 1 - i = ((Lib.countByte l 32) + 1 - (i + 1)) + 1 by omega, row_set (rest.take m) hdl]
    refine L.nil ?_
    refine T.rg ?_
    refine L.mv rfl rfl ?_
    refine L.mv rfl rfl ?_
    refine L.mv rfl rfl ?_
    refine L.lenS Tryz.underlying9 rfl rfl ?_
    refine L.ar ((m + 1 : Nat) : Int) rfl rfl rfl (by show (m : Int) + 1 = _ ∧ _; omega) rfl ?_
    refine L.slS (m + 1) rest.length Tryz.underlying9 rfl ⟨_, rfl⟩ rfl ⟨by omega, by rw [mkB_size]; omega⟩ rfl ?_
    rw [drop_all]
    refine L.as rfl rfl ?_
    refine L.nil ?_
    refine T.region ?_
    refine L.mv rfl rfl ?_
    refine L.ar ((i + 1 : Nat) : Int) rfl rfl rfl (by omega) rfl ?_
    refine L.as rfl rfl ?_
    refine L.last ?_
    refine G.round ((Lib.countByte l 32) - (i + 1)) _ (by omega) ⟨i + 1, done ++ [rest.take m], rest.drop (m + 1), by omega, rfl, by simp [hdl], by rw [hsp, hrs, List.append_assoc]; rfl, by rw [List.length_drop]; omega, rfl, rfl⟩ (by repeat constructor)
  · skip
    have hge : i = (Lib.countByte l 32) := by have := of_decide_eq_false h36; omega
    have hrs : splitL rest = [rest] := by
      refine splitL_none (List.count_eq_zero.1 ?_)
      have : Lib.countByte rest 32 = 0 := by omega
      exact this
    refine T.exit ?_
    refine T.go (fun _ _ h => h) ?_
    refine T.rg ?_
    refine L.mv rfl rfl ?_
    refine L.mv rfl rfl ?_
    refine L.mv rfl rfl ?_
    refine L.ixR i Tryz.underlying27 s9 rfl rfl rfl (by omega) rfl ?_
    refine L.stR (i := 0) s9 rfl rfl rfl (by rw [rowS_len]; omega) rfl ?_
    rw [show (Lib.countByte l 32) + 1 - i = 0 + 1 by omega, row_set rest hdl]
    refine L.nil ?_
    refine T.rg ?_
    refine L.mv rfl rfl ?_
    refine L.mv rfl rfl ?_
    refine L.ar (((Lib.countByte l 32) + 1 : Nat) : Int) rfl rfl rfl (by omega) rfl ?_
    refine L.pub 62 0 rfl rfl rfl ?_
    refine L.slL 0 ((Lib.countByte l 32) + 1) Tryz.underlying27 s9 rfl rfl ⟨_, rfl⟩ ⟨by omega, by rw [rowS_len, List.length_append]; show _ ≤ _ + 1 + 0; omega⟩ rfl ?_
    rw [row_all (done ++ [rest]) (by rw [List.length_append, hdl, hge]; rfl) 0]
    refine L.as rfl rfl ?_
    refine L.nil ?_
    refine T.ret ?_
    exact G.ret (res1 Tryz.results100 rfl) ⟨rfl, by rw [hsp, hrs]⟩

set_option maxHeartbeats 400000 in
theorem f75 (l : List UInt8) (hl : l.length ≤ 1000000) : Fc Tryz.prog 75 [S_ (mkB l), S_ blB] [] (Just (aL 1 (strs ((splitL l).map mkB)))) := by
  refine Fc.enter Tryz.func75 rfl Tryz.ntmps75 rfl fun X w => ?_
  refine T.rg ?_
  refine L.as rfl rfl ?_
  refine L.nil ?_
  refine T.rg ?_
  refine L.mv rfl rfl ?_
  refine L.mv rfl rfl ?_
  refine L.call e100 rfl rfl (f100 l hl) ?_
  rintro _ _ ⟨rfl, rfl⟩
  refine L.as rfl rfl ?_
  refine L.nil ?_
  refine T.ret ?_
  exact G.ret (res1 Tryz.results75 rfl) ⟨rfl, rfl⟩

set_option maxHeartbeats 400000 in
theorem f45 (l : List UInt8) : Fc Tryz.prog 45 [S_ (mkB l)] [] (fun x Ω => ∃ b, x = aR (.func (.func 74) #[] #[.pointer (some ⟨b, 0, none⟩)]) ∧ Ω = [.blk b 9 [.d (.s (mkB l))]]) := by
  refine Fc.enter Tryz.func45 rfl Tryz.ntmps45 rfl fun X w => ?_
  refine T.rg ?_
  refine L.box rfl rfl fun b1 => ?_
  refine L.as rfl rfl ?_
  refine L.nil ?_
  refine T.rg ?_
  refine L.mf rfl rfl ?_
  refine L.as rfl rfl ?_
  refine L.nil ?_
  refine T.ret ?_
  exact G.ret (res1 Tryz.results45 rfl) ⟨b1, rfl, rfl⟩

set_option maxHeartbeats 1000000 in
theorem f74s (l : List UInt8) (hl : l.length ≤ 1000000) (b lp : Nat) (yd : List (Value × Go.Q.D)) (J : Nat → List Ob → Prop) (Jx : List Ob → Prop) (hy : ∀ k Ωb, k < (fieldsL l).length → J k Ωb → YFc Tryz.prog lp yd [S_ (mkB ((fieldsL l).getD k []))] Ωb (fun x Ωb2 => (x = aB true ∧ J (k + 1) Ωb2) ∨ (x = aB false ∧ Jx Ωb2))) (Ωb : List Ob) (h0 : J 0 Ωb) : Fc Tryz.prog 74 [.c (.y lp yd), P_ b 0] (.blk b 9 [.d (.s (mkB l))] :: Ωb) (fun _ Ω => ∃ Ωb2, Ω = .blk b 9 [.d (.s (mkB l))] :: Ωb2 ∧ (J (fieldsL l).length Ωb2 ∨ Jx Ωb2)) := by
  refine Fc.enter Tryz.func74 rfl Tryz.ntmps74 rfl fun X w => ?_
  refine T.rg ?_
  refine L.ld 0 o9 rfl rfl rfl rfl ?_
  refine L.call e75 rfl rfl (f75 l hl) ?_
  rintro _ _ ⟨rfl, rfl⟩
  refine L.lenL Tryz.underlying27 rfl rfl fun hl7 => ?_
  rw [strs_len, List.length_map] at hl7 ⊢
  refine L.mv rfl rfl ?_
  refine L.nil ?_
  refine T.block ?_
  refine T.loop (fun m σ Ω => ∃ (q : Nat) (Ωb : List Ob), q ≤ (splitL l).length ∧ m = (splitL l).length - q ∧ J (((splitL l).take q).filter fun f => !f.isEmpty).length Ωb ∧ σ = [(8, aN q), (7, aN (splitL l).length), (6, aL 1 (strs ((splitL l).map mkB))), (1, aP b 0), (0, .v (.c (.y lp yd)))] ∧ Ω = .blk b 9 [.d (.s (mkB l))] :: Ωb) ((splitL l).length) _ (⟨0, Ωb, Nat.zero_le _, rfl, h0, rfl, rfl⟩) (by repeat constructor) ?_
  rintro m σ Ω ⟨q, Ωb, hq, rfl, hJ, rfl, rfl⟩
  refine T.rg ?_
  refine L.cmp rfl rfl rfl rfl ?_
  refine L.nil ?_
  refine T.of_seq ?_
  refine T.cond rfl (fun h9 => ?_) (fun h9 => ?_)
  · skip
    have hlt : q < (splitL l).length := by have := of_decide_eq_true h9; omega
    refine T.skip ?_
    refine T.go (fun _ _ h => h) ?_
    refine T.of_seq ?_
    refine T.block ?_
    refine T.rg ?_
    refine L.ixL q [D.s (mkB (splitL l)[q])] Tryz.underlying27 s9 rfl rfl rfl (by rw [strs_get (by simpa using hlt)]; simp) rfl ?_
    refine L.li o9 rfl rfl ?_
    refine L.as rfl rfl ?_
    refine L.nil ?_
    refine T.rg ?_
    refine L.mv rfl rfl ?_
    refine L.neS rfl rfl rfl ?_
    rw [neF]
    refine L.mv rfl rfl ?_
    refine L.caseB 14 rfl (fun h14 => ?_) (fun h14 => ?_)
    · skip
      have hne : (!(splitL l)[q].isEmpty) = true := h14
      obtain ⟨hk, hgd⟩ := fld_get hlt hne
      refine L.on rfl rfl ?_
      refine L.mv rfl rfl ?_
      refine L.on rfl rfl ?_
      refine L.mv rfl rfl ?_
      refine L.on rfl rfl ?_
      have hyk := hy _ Ωb hk hJ
      rw [show (fieldsL l).getD (((splitL l).take q).filter fun f => !f.isEmpty).length [] = (splitL l)[q] from hgd] at hyk
      refine L.callY [.blk b 9 [.d (.s (mkB l))]] Ωb [] (by simp) rfl rfl rfl hyk ?_
      rintro _ Ω2 (⟨rfl, hJ2⟩ | ⟨rfl, hJ2⟩)
      · skip
        simp only [List.cons_append, List.nil_append, List.append_nil]
        skip
        refine L.on rfl rfl ?_
        refine L.not rfl rfl ?_
        refine L.pkT rfl rfl rfl ?_
        refine L.nil ?_
        refine T.cond rfl (fun h19 => ?_) (fun h19 => ?_)
        · skip
          cases h19
        · skip
          refine T.skip ?_
          refine T.go (fun _ _ h => h) ?_
          refine T.region ?_
          refine L.ar ((q + 1 : Nat) : Int) rfl rfl rfl (by omega) rfl ?_
          refine L.mv rfl rfl ?_
          refine L.last ?_
          refine G.round ((splitL l).length - (q + 1)) _ (by omega) ⟨q + 1, Ω2, by omega, rfl, by rw [fld_yes hlt hne]; exact hJ2, rfl, rfl⟩ (by repeat constructor)
      · skip
        simp only [List.cons_append, List.nil_append, List.append_nil]
        skip
        refine L.on rfl rfl ?_
        refine L.not rfl rfl ?_
        refine L.pkT rfl rfl rfl ?_
        refine L.nil ?_
        refine T.cond rfl (fun h19 => ?_) (fun h19 => ?_)
        · skip
          refine T.ret ?_
          exact G.ret (res0 Tryz.results74) ⟨Ω2, rfl, .inr hJ2⟩
        · skip
          cases h19
    · skip
      have hne : (!(splitL l)[q].isEmpty) = false := h14
      refine L.off rfl rfl rfl rfl ?_
      refine L.off rfl rfl rfl rfl ?_
      refine L.off rfl rfl rfl rfl ?_
      refine L.off rfl rfl rfl rfl ?_
      refine L.pkF rfl rfl rfl ?_
      refine L.nil ?_
      refine T.condF rfl ?_
      refine T.skip ?_
      refine T.go (fun _ _ h => h) ?_
      refine T.region ?_
      refine L.ar ((q + 1 : Nat) : Int) rfl rfl rfl (by omega) rfl ?_
      refine L.mv rfl rfl ?_
      refine L.last ?_
      refine G.round ((splitL l).length - (q + 1)) _ (by omega) ⟨q + 1, Ωb, by omega, rfl, by rw [fld_no hlt hne]; exact hJ, rfl, rfl⟩ (by repeat constructor)
  · skip
    have hge : q = (splitL l).length := by have := of_decide_eq_false h9; omega
    subst hge
    refine T.exit ?_
    exact G.end (res0 Tryz.results74) ⟨Ωb, rfl, .inl (by rw [List.take_of_length_le (Nat.le_refl _)] at hJ; exact hJ)⟩

theorem iter74 (l : List UInt8) (hl : l.length ≤ 1000000) (b : Nat) : Iter Tryz.prog 74 (capS [.pointer (some ⟨b, 0, none⟩)]) [.blk b 9 [.d (.s (mkB l))]] (fieldsL l).length (fun k => [S_ (mkB ((fieldsL l).getD k []))]) :=
  fun lp yd J Jx hy Ωb h0 => f74s l hl b lp yd J Jx hy Ωb h0
end Go.Proofs.YtimimkdgofiloaaGreatDoor
