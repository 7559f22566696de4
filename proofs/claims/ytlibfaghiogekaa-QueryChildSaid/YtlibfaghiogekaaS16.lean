/- The document's way up a tree. Printed by gen.py. -/
import Derived.Test.YtlibfaghiogekaaS14
import Derived.Test.YtlibfaghiogekaaS9
import Derived.Test.YtlibfaghiogekaaQq
import Derived.Test.YtlibfaghiogekaaDh
namespace Go.Proofs.Ytlibfaghiogekaa
open Go Go.Q
theorem sel_get' {l : List SPart} {k : Nat} (h : k < l.length) : (sel l)[k]? = some l[k].d := by simp [sel, h]
theorem f44t (p : SPart) (t : Tr) (hok : t.ok) : Fc Try.prog 44 [.g t.cs, .g p.cs] [] (Just (aB (t.fits p))) := by
  cases t with
  | mk id kind tag text cl at' st kids => exact f44 p id kind tag text cl at' st (kidsD kids) hok.1 hok.2.1
set_option maxHeartbeats 2000000 in
theorem f28s (q : List SPart) (p : SPart) (u : List Tr) (t : Tr) (hq : q.length ≤ 500) (hw : u.length ≤ 1000) (hok : kidsOk u) (htok : t.ok) (ih : ∀ (u : List Tr), u.length ≤ 1000 → kidsOk u → Fc Try.prog 28 [L_ 8 (kidsD u), L_ 4 (sel q)] [] (Just (aB (fitsV q.reverse u.reverse)))) : Fc Try.prog 28 [L_ 8 (kidsD (u ++ [t])), L_ 4 (sel (q ++ [p]))] [] (Just (aB (fitsV (q ++ [p]).reverse (u ++ [t]).reverse))) := by
  have hwl : (kidsD (u ++ [t])).length = u.length + 1 := by rw [kidsD_len, List.length_append]; rfl
  have hql : (sel (q ++ [p])).length = q.length + 1 := by rw [sel_len, List.length_append]; rfl
  have hgw : (kidsD (u ++ [t]))[u.length]? = some t.d := by rw [kidsD_get (by simp)]; simp
  have hgq : (sel (q ++ [p]))[q.length]? = some p.d := by rw [sel_get' (by simp)]; simp
  have hF : fitsV (q ++ [p]).reverse (u ++ [t]).reverse = (t.fits p && (q.reverse.isEmpty || (if p.child = true then fitsV q.reverse u.reverse else anyTail (fitsV q.reverse) u.reverse))) := by rw [List.reverse_append, List.reverse_append]; rfl
  refine Fc.enter Try.func28 rfl Try.ntmps28 rfl fun X w => ?_
  refine T.rg ?_
  refine L.as rfl rfl ?_
  refine L.nil ?_
  refine T.of_seq ?_
  refine T.rg ?_
  refine L.mv rfl rfl ?_
  refine L.lenL Try.underlying48 rfl rfl fun hl8 => ?_
  refine L.cmp rfl rfl rfl rfl ?_
  refine L.mv rfl rfl ?_
  refine L.caseB 10 rfl (fun h10 => ?_) (fun h10 => ?_)
  · skip
    exfalso
    have := of_decide_eq_true h10
    omega
  · skip
    refine L.on rfl rfl ?_
    refine L.mv rfl rfl ?_
    refine L.on rfl rfl ?_
    refine L.lenL Try.underlying55 rfl rfl fun hl12 => ?_
    refine L.on rfl rfl ?_
    refine L.cmp rfl rfl rfl rfl ?_
    refine L.pkF rfl rfl rfl ?_
    refine L.nil ?_
    refine T.cond rfl (fun h14 => ?_) (fun h14 => ?_)
    · skip
      exfalso
      have := of_decide_eq_true h14
      omega
    · skip
      refine T.skip ?_
      refine T.go (fun _ _ h => h) ?_
      refine T.rg ?_
      refine L.mv rfl rfl ?_
      refine L.mv rfl rfl ?_
      refine L.lenL Try.underlying48 rfl rfl fun hl17 => ?_
      refine L.ar (q.length : Int) rfl rfl rfl (by omega) rfl ?_
      refine L.ixL q.length _ Try.underlying48 s83 rfl rfl rfl hgq rfl ?_
      refine L.lig a83 s83 rfl rfl rfl rfl ?_
      refine L.alloc z83 rfl rfl fun b5 => ?_
      refine L.stog 0 s83 rfl rfl rfl rfl rfl rfl ?_
      refine L.nil ?_
      refine T.of_seq ?_
      refine T.of_seq ?_
      refine T.drawD 7 [(5, aP b5 0), (1, aL 4 (sel (q ++ [p]))), (0, aL 8 (kidsD (u ++ [t])))] [aL 8 (kidsD (u ++ [t])), aL 8 (kidsD (u ++ [t])), aN (kidsD (u ++ [t])).length, aN u.length, .v (.c (.ip t.d)), .v (.g t.cs), .v (.g p.cs)] hmixed rfl rfl rfl rfl (by repeat constructor) ⟨?_, ?_, ?_, ?_, ?_, ?_, ?_, trivial⟩ ?_
      · intro σ' Ωf hsb hA
        refine L.mv (hsb.get rfl) rfl ?_
        exact L.last (G.finD rfl)
      · intro σ' Ωf hsb hA
        refine L.mv (hsb.get rfl) rfl ?_
        exact L.last (G.finD rfl)
      · intro σ' Ωf hsb hA
        refine L.lenL Try.underlying55 (hA 1 rfl) rfl fun hl23 => ?_
        exact L.last (G.finD rfl)
      · intro σ' Ωf hsb hA
        refine L.ar (u.length : Int) (hA 2 rfl) rfl rfl (by omega) rfl ?_
        exact L.last (G.finD rfl)
      · intro σ' Ωf hsb hA
        refine L.ixL u.length _ Try.underlying55 s57 (hA 0 rfl) (hA 3 rfl) rfl hgw rfl ?_
        exact L.last (G.finD rfl)
      · intro σ' Ωf hsb hA
        refine L.lig a57 s57 (hA 4 rfl) (List.take_of_length_le (by rw [Tr.d_len]; exact Nat.le_refl _)) (Tr.d_len _) rfl ?_
        rw [← Tr.cs_d]
        exact L.last (G.finD rfl)
      · intro σ' Ωf hsb hA
        refine L.ldg 0 a83 s83 (hsb.get rfl) rfl rfl rfl rfl ?_
        exact L.last (G.finD rfl)
      refine L.call e44 rfl rfl (f44t p t htok) ?_
      rintro _ _ ⟨rfl, rfl⟩
      refine L.not rfl rfl ?_
      refine L.last ?_
      refine T.go (fun _ _ h => h) ?_
      refine T.cond rfl (fun h29 => ?_) (fun h29 => ?_)
      · skip
        have hf : t.fits p = false := by simpa using h29
        refine T.rg ?_
        refine L.as rfl rfl ?_
        refine L.nil ?_
        refine T.ret ?_
        refine G.conv (drop_at (i := 0) rfl rfl) ?_
        exact G.ret (res1 Try.results28 rfl) ⟨rfl, congrArg aB (by rw [hF, hf]; rfl)⟩
      · skip
        have hf : t.fits p = true := by simpa using h29
        refine T.skip ?_
        refine T.go (fun _ _ h => h) ?_
        refine T.of_seq ?_
        refine T.rg ?_
        refine L.mv rfl rfl ?_
        refine L.lenL Try.underlying48 rfl rfl fun hl31 => ?_
        refine L.cmp rfl rfl rfl rfl ?_
        refine L.nil ?_
        refine T.cond rfl (fun h32 => ?_) (fun h32 => ?_)
        · skip
          have hq0 : q = [] := List.eq_nil_of_length_eq_zero (by have := of_decide_eq_true h32; omega)
          refine T.rg ?_
          refine L.as rfl rfl ?_
          refine L.nil ?_
          refine T.ret ?_
          refine G.conv (drop_at (i := 0) rfl rfl) ?_
          exact G.ret (res1 Try.results28 rfl) ⟨rfl, congrArg aB (by rw [hF, hf, hq0]; rfl)⟩
        · skip
          have hq0 : q.reverse.isEmpty = false := by cases q with | nil => simp at h32 | cons a q => simp
          refine T.skip ?_
          refine T.go (fun _ _ h => h) ?_
          refine T.of_seq ?_
          refine T.rg ?_
          refine L.mv rfl rfl ?_
          refine L.lenL Try.underlying55 rfl rfl fun hl34 => ?_
          refine L.ar (u.length : Int) rfl rfl rfl (by omega) rfl ?_
          refine L.as rfl rfl ?_
          refine L.nil ?_
          refine T.block ?_
          refine T.loop (fun m σ Ω => ∃ k : Nat, k ≤ u.length ∧ m = k + 1 ∧ (k = u.length ∨ p.child = false) ∧ anyTail (fitsV q.reverse) u.reverse = anyTail (fitsV q.reverse) (u.take k).reverse ∧ σ = [(6, aN k), (5, aP b5 0), (1, aL 4 (sel (q ++ [p]))), (0, aL 8 (kidsD (u ++ [t])))] ∧ Ω = [.blk b5 83 p.cs]) (u.length + 1) _ (⟨u.length, Nat.le_refl _, rfl, .inl rfl, by rw [List.take_length], rfl, rfl⟩) (by repeat constructor) ?_
          rintro m σ Ω ⟨k, hk, rfl, hch, hany, rfl, rfl⟩
          refine T.of_seq ?_
          refine T.rg ?_
          refine L.mv rfl rfl ?_
          refine L.cmp rfl rfl rfl rfl ?_
          refine L.nil ?_
          refine T.cond rfl (fun h37 => ?_) (fun h37 => ?_)
          · skip
            have hpos : 0 < k := by simpa using h37
            have htk : (u.take k).reverse = u[k - 1] :: (u.take (k - 1)).reverse := by
              have h1 : k = (k - 1) + 1 := by omega
              conv => lhs; rw [h1]
              rw [List.take_add_one, List.getElem?_eq_getElem (by omega)]
              simp
            refine T.skip ?_
            refine T.go (fun _ _ h => h) ?_
            refine T.of_seq ?_
            refine T.block ?_
            refine T.of_seq ?_
            refine T.of_seq ?_
            refine T.drawD 8 [(6, aN k), (5, aP b5 0), (1, aL 4 (sel (q ++ [p]))), (0, aL 8 (kidsD (u ++ [t])))] [aL 8 (kidsD (u ++ [t])), aN k, aL 8 (kidsD (u.take k)), aL 4 (sel (q ++ [p])), aL 4 (sel (q ++ [p])), aN (sel (q ++ [p])).length, aN q.length, aL 4 (sel q)] hmixed rfl rfl rfl rfl (by repeat constructor) ⟨?_, ?_, ?_, ?_, ?_, ?_, ?_, ?_, trivial⟩ ?_
            · intro σ' Ωf hsb hA
              refine L.mv (hsb.get rfl) rfl ?_
              exact L.last (G.finD rfl)
            · intro σ' Ωf hsb hA
              refine L.mv (hsb.get rfl) rfl ?_
              exact L.last (G.finD rfl)
            · intro σ' Ωf hsb hA
              refine L.slL 0 k Try.underlying55 s57 (hA 0 rfl) rfl ⟨_, hA 1 rfl⟩ ⟨Nat.zero_le _, by omega⟩ rfl ?_
              rw [show ((kidsD (u ++ [t])).drop 0).take (k - 0) = kidsD (u.take k) by rw [List.drop_zero, Nat.sub_zero, kidsD_take, List.take_append_of_le_length hk]]
              exact L.last (G.finD rfl)
            · intro σ' Ωf hsb hA
              refine L.mv (hsb.get rfl) rfl ?_
              exact L.last (G.finD rfl)
            · intro σ' Ωf hsb hA
              refine L.mv (hsb.get rfl) rfl ?_
              exact L.last (G.finD rfl)
            · intro σ' Ωf hsb hA
              refine L.lenL Try.underlying48 (hA 4 rfl) rfl fun hl45 => ?_
              exact L.last (G.finD rfl)
            · intro σ' Ωf hsb hA
              refine L.ar (q.length : Int) (hA 5 rfl) rfl rfl (by omega) rfl ?_
              exact L.last (G.finD rfl)
            · intro σ' Ωf hsb hA
              refine L.slL 0 q.length Try.underlying48 s83 (hA 3 rfl) rfl ⟨_, hA 6 rfl⟩ ⟨Nat.zero_le _, by omega⟩ rfl ?_
              rw [show ((sel (q ++ [p])).drop 0).take (q.length - 0) = sel q by simp [sel]]
              exact L.last (G.finD rfl)
            refine L.call e28 rfl rfl (ih (u.take k) (by rw [List.length_take]; omega) (kidsOk_take hok k)) ?_
            rintro _ _ ⟨rfl, rfl⟩
            refine L.last ?_
            refine T.go (fun _ _ h => h) ?_
            refine T.cond rfl (fun h48 => ?_) (fun h48 => ?_)
            · skip
              have hfv : fitsV q.reverse (u.take k).reverse = true := h48
              refine T.rg ?_
              refine L.as rfl rfl ?_
              refine L.nil ?_
              refine T.ret ?_
              refine G.conv (drop_at (i := 0) rfl rfl) ?_
              refine G.ret (res1 Try.results28 rfl) ?_
              refine ⟨rfl, congrArg aB ?_⟩
              rw [hF, hf, hq0]
              by_cases hc : p.child = true
              · have hkw : k = u.length := hch.resolve_right (by rw [hc]; decide)
                rw [hkw, List.take_length] at hfv
                rw [if_pos hc, hfv]; rfl
              · rw [if_neg hc, hany, htk, anyTail, ← htk, hfv]; rfl
            · skip
              have hfv : fitsV q.reverse (u.take k).reverse = false := h48
              refine T.skip ?_
              refine T.go (fun _ _ h => h) ?_
              refine T.rg ?_
              refine L.fa Try.underlying83 rfl s4 rfl rfl ?_
              refine L.ld 0 o4 rfl rfl rfl rfl ?_
              refine L.nil ?_
              refine T.cond rfl (fun h50 => ?_) (fun h50 => ?_)
              · skip
                refine T.rg ?_
                refine L.as rfl rfl ?_
                refine L.nil ?_
                refine T.ret ?_
                refine G.conv (drop_at (i := 0) rfl rfl) ?_
                exact G.ret (res1 Try.results28 rfl) ⟨rfl, congrArg aB (by have hc : p.child = true := h50; have hkw : k = u.length := hch.resolve_right (by rw [hc]; decide); rw [hF, hf, hq0, if_pos hc]; rw [hkw, List.take_length] at hfv; rw [hfv]; rfl)⟩
              · skip
                refine T.skip ?_
                refine T.go (fun _ _ h => h) ?_
                refine T.region ?_
                refine L.mv rfl rfl ?_
                refine L.ar ((k - 1 : Nat) : Int) rfl rfl rfl (by omega) rfl ?_
                refine L.as rfl rfl ?_
                refine L.last ?_
                refine G.round (k - 1 + 1) _ (by omega) ⟨k - 1, by omega, rfl, .inr h50, by rw [hany, htk, anyTail, ← htk, hfv, Bool.false_or], rfl, rfl⟩ (by repeat constructor)
          · skip
            have h0 : k = 0 := by have : ¬ 0 < k := (by simpa using h37); omega
            refine T.exit ?_
            refine T.go (fun _ _ h => h) ?_
            refine T.rg ?_
            refine L.as rfl rfl ?_
            refine L.nil ?_
            refine T.ret ?_
            refine G.conv (drop_at (i := 0) rfl rfl) ?_
            refine G.ret (res1 Try.results28 rfl) ?_
            refine ⟨rfl, congrArg aB ?_⟩
            rw [hF, hf, hq0]
            by_cases hc : p.child = true
            · have hkw : k = u.length := hch.resolve_right (by rw [hc]; decide)
              have hw0 : u = [] := List.eq_nil_of_length_eq_zero (by omega)
              rw [if_pos hc, hw0, List.reverse_nil, fitsV_nil]; rfl
            · rw [if_neg hc, hany, h0, List.take_zero, List.reverse_nil, anyTail, fitsV_nil]; rfl

set_option maxHeartbeats 400000 in
theorem f28z (u : List Tr) : Fc Try.prog 28 [L_ 8 (kidsD u), L_ 4 (sel [])] [] (Just (aB false)) := by
  refine Fc.enter Try.func28 rfl Try.ntmps28 rfl fun X w => ?_
  refine T.rg ?_
  refine L.as rfl rfl ?_
  refine L.nil ?_
  refine T.of_seq ?_
  refine T.rg ?_
  refine L.mv rfl rfl ?_
  refine L.lenL Try.underlying48 rfl rfl fun hl8 => ?_
  refine L.cmp rfl rfl rfl rfl ?_
  refine L.mv rfl rfl ?_
  refine L.caseB 10 rfl (fun h10 => ?_) (fun h10 => ?_)
  · skip
    refine L.off rfl rfl rfl rfl ?_
    refine L.off rfl rfl rfl rfl ?_
    refine L.off rfl rfl rfl rfl ?_
    refine L.pkT rfl rfl rfl ?_
    refine L.nil ?_
    refine T.condT rfl ?_
    refine T.rg ?_
    refine L.as rfl rfl ?_
    refine L.nil ?_
    refine T.ret ?_
    exact G.ret (res1 Try.results28 rfl) ⟨rfl, rfl⟩
  · skip
    exact absurd h10 (by decide)

set_option maxHeartbeats 400000 in
theorem f28e (l : List SPart) : Fc Try.prog 28 [L_ 8 (kidsD []), L_ 4 (sel l)] [] (Just (aB false)) := by
  refine Fc.enter Try.func28 rfl Try.ntmps28 rfl fun X w => ?_
  refine T.rg ?_
  refine L.as rfl rfl ?_
  refine L.nil ?_
  refine T.of_seq ?_
  refine T.rg ?_
  refine L.mv rfl rfl ?_
  refine L.lenL Try.underlying48 rfl rfl fun hl8 => ?_
  refine L.cmp rfl rfl rfl rfl ?_
  refine L.mv rfl rfl ?_
  refine L.caseB 10 rfl (fun h10 => ?_) (fun h10 => ?_)
  · skip
    refine L.off rfl rfl rfl rfl ?_
    refine L.off rfl rfl rfl rfl ?_
    refine L.off rfl rfl rfl rfl ?_
    refine L.pkT rfl rfl rfl ?_
    refine L.nil ?_
    refine T.condT rfl ?_
    refine T.rg ?_
    refine L.as rfl rfl ?_
    refine L.nil ?_
    refine T.ret ?_
    exact G.ret (res1 Try.results28 rfl) ⟨rfl, rfl⟩
  · skip
    refine L.on rfl rfl ?_
    refine L.mv rfl rfl ?_
    refine L.on rfl rfl ?_
    refine L.lenL Try.underlying55 rfl rfl fun hl12 => ?_
    refine L.on rfl rfl ?_
    refine L.cmp rfl rfl rfl rfl ?_
    refine L.pkF rfl rfl rfl ?_
    refine L.nil ?_
    refine T.cond rfl (fun h14 => ?_) (fun h14 => ?_)
    · skip
      refine T.rg ?_
      refine L.as rfl rfl ?_
      refine L.nil ?_
      refine T.ret ?_
      exact G.ret (res1 Try.results28 rfl) ⟨rfl, rfl⟩
    · skip
      exact absurd h14 (by decide)

theorem f28 : ∀ (n : Nat) (l : List SPart), l.length = n → l.length ≤ 500 → ∀ (u : List Tr), u.length ≤ 1000 → kidsOk u → Fc Try.prog 28 [L_ 8 (kidsD u), L_ 4 (sel l)] [] (Just (aB (fitsV l.reverse u.reverse)))
  | 0, l, hn, _ => fun u _ _ => by
    have : l = [] := List.eq_nil_of_length_eq_zero hn
    subst this
    exact f28z u
  | n + 1, l, hn, hl => fun u hu hok => by
    have hne : l ≠ [] := fun e => by rw [e] at hn; simp at hn
    obtain ⟨q, p, rfl⟩ : ∃ q p, l = q ++ [p] := ⟨l.dropLast, l.getLast hne, (List.dropLast_concat_getLast hne).symm⟩
    by_cases hu0 : u = []
    · subst hu0
      rw [List.reverse_nil, fitsV_nil]
      exact f28e _
    · obtain ⟨w, t, rfl⟩ : ∃ w t, u = w ++ [t] := ⟨u.dropLast, u.getLast hu0, (List.dropLast_concat_getLast hu0).symm⟩
      have hok' := kidsOk_all.1 hok
      rw [List.length_append] at hn hl hu
      exact f28s q p w t (by omega) (by omega) (kidsOk_all.2 fun x hx => hok' x (by simp [hx])) (hok' t (by simp)) fun u h1 h2 => f28 n q (by simpa using hn) (by omega) u h1 h2
end Go.Proofs.Ytlibfaghiogekaa
