/- strconv.Itoa, by the shelf; the document's numbers; digits. Printed by gen.py. -/
import Derived.Test.YtimimkdgofiloaaGreatDoorS55
import Derived.Test.YtimimkdgofiloaaGreatDoorLy
import Derived.Lib.ItoaLen
namespace Go.Proofs.YtimimkdgofiloaaGreatDoor
open Go Go.Q
theorem e16 : enters Tryz.prog 16 = true := by kernel_rfl
/-- What the library's table of powers holds. -/
def TabX (x : Obj) : Prop := ∃ T fr, x = .cells (Lib.pow10Tab.map fun z => Value.int .u64 z).toArray T fr
theorem f33 (x : Obj) (hx : TabX x) (n : Int) (h0 : -9223372036854775808 ≤ n) (h1 : n ≤ 9223372036854775807) : Fc Tryz.prog 33 [N_ n, N_ 10] [.raw 1 x] (fun y Ω => y = aS (mkB (Lib.itoa n)) ∧ Ω = [.raw 1 x]) := by
  intro X w args hs ha
  have hw : w.heap[1]? = some x := hs.obs (.raw 1 x) (by simp)
  obtain ⟨T, fr, rfl⟩ := hx
  match args, ha with
  | [a, b], ⟨ha, hb, _⟩ =>
    have e1 : a = .int .i64 n := Rc.int_inv ha
    have e2 : b = .int .i64 10 := Rc.int_inv hb
    subst e1; subst e2
    have htab : Lib.TabIs Tryz.prog w "internal/strconv.uint64pow10" .u64 Lib.pow10Tab := by
      unfold Lib.TabIs World.var?
      rw [show Tryz.prog.globalNamed "internal/strconv.uint64pow10" = some 1 from laysI.m17]
      simp only [Option.bind_some, hw]
    refine Calls.mono (Any.internal_strconv_FormatInt_10 laysI n h0 h1 w htab) ?_
    rintro e w' ⟨rfl, k, os, rfl⟩
    have hdn : ∀ k (w : World), (w.drewN k).heap = w.heap ∧ (w.drewN k).os = w.os ∧ (w.drewN k).tape = w.tape ∧ (w.drewN k).output = w.output := fun k w => ⟨rfl, rfl, rfl, rfl⟩
    obtain ⟨d1, d2, d3, d4⟩ := hdn k w
    have hgr : w.grownBy (Sort.grow (w.drewN k) os) none := ⟨d2, d3, d4, by simp [Sort.grow, d1], fun b hb _ => by
      simp only [Sort.grow, d1]
      rw [Array.getElem?_append_left hb]⟩
    obtain ⟨hm, _⟩ := hs.more hgr
    exact ⟨_, _, _, rfl, ⟨rfl, rfl⟩, hm, Rc.s _⟩
def digR (s : List UInt8) : List UInt8 := if s.head? = some 45 then s.drop 1 else s
def sgR (s : List UInt8) : Int := if s.head? = some 45 then -1 else 1
/-- Is a text a number, as the document has it? -/
def numR (s : List UInt8) : Bool := if (digR s).length < 1 ∨ 10 < (digR s).length ∨ (digR s).all isDig = false then false else
  decide (Lib.itoa (sgR s * valL (digR s)) = s) && !decide (2147483647 < sgR s * valL (digR s)) && !decide (sgR s * valL (digR s) < -2147483648)
theorem numR_bad {s : List UInt8} (h : (digR s).length < 1 ∨ 10 < (digR s).length ∨ (digR s).all isDig = false) : numR s = false := by unfold numR; rw [if_pos h]
theorem numR_good {s : List UInt8} (h1 : ¬ (digR s).length < 1) (h2 : ¬ 10 < (digR s).length) (h3 : (digR s).all isDig = true) : numR s = (decide (Lib.itoa (sgR s * valL (digR s)) = s) && !decide (2147483647 < sgR s * valL (digR s)) && !decide (sgR s * valL (digR s) < -2147483648)) := by
  unfold numR; rw [if_neg (fun h => h.elim h1 (fun h => h.elim h2 (fun h => by rw [h3] at h; cases h)))]
theorem sg_cases (s : List UInt8) : sgR s = 1 ∨ sgR s = -1 := by unfold sgR; split <;> simp
theorem hd45 {c : UInt8} {r : List UInt8} : ((c.toNat : Int) == 45) = decide ((c :: r).head? = some 45) := by
  by_cases h : c = 45
  · subst h; rfl
  · have h1 : c.toNat ≠ 45 := fun e => h (UInt8.toNat_inj.1 (by rw [e]; rfl))
    have e1 : ((c.toNat : Int) == 45) = false := by simp; omega
    rw [e1, decide_eq_false (by simpa using h)]
theorem all_snoc {d : List UInt8} {k : Nat} (h : k < d.length) (ha : (d.take k).all isDig = true) (hc : isDig d[k] = true) : (d.take (k + 1)).all isDig = true := by
  rw [List.take_add_one, List.getElem?_eq_getElem h, List.all_append, ha]; simp [hc]
/-- digits(n). -/
def digL (n : Int) : List UInt8 := if n < 0 then [45, 49] else Lib.decDigits n.toNat
theorem bys_one' {k : Nat} (h : k < 10) : bys (mkB [UInt8.ofNat (48 + k)]) = [[D.i .u8 (48 + (k : Int))]] := by
  rw [bys_mk]; simp only [List.map_cons, List.map_nil]
  rw [dig_nat h]; rfl
def decP (u : Nat) : List UInt8 := if u = 0 then [] else Lib.decDigits u
theorem decP_step {u : Nat} (h : 0 < u) : decP u = decP (u / 10) ++ [UInt8.ofNat (48 + u % 10)] := by
  unfold decP
  rw [if_neg (by omega)]
  by_cases h10 : u < 10
  · rw [if_pos (by omega), Lib.decDigits_one h10, Nat.mod_eq_of_lt h10]; rfl
  · rw [if_neg (by omega), dec_step h10]
set_option maxHeartbeats 400000 in
theorem f22 (x : Obj) (hx : TabX x) (n : Int) (h0 : -9223372036854775808 ≤ n) (h1 : n ≤ 9223372036854775807) : Fc Tryz.prog 22 [N_ n] [.raw 1 x] (fun y Ω => y = aS (mkB (Lib.itoa n)) ∧ Ω = [.raw 1 x]) := by
  refine Fc.enter Tryz.func22 rfl Tryz.ntmps22 rfl fun X w => ?_
  refine T.rg ?_
  refine L.as rfl rfl ?_
  refine L.nil ?_
  refine T.rg ?_
  refine L.mv rfl rfl ?_
  refine L.callO [] [_] [] rfl e33 rfl rfl (f33 x hx n h0 h1) ?_
  rintro _ _ ⟨rfl, rfl⟩
  refine L.as rfl rfl ?_
  refine L.nil ?_
  refine T.ret ?_
  exact G.ret (res1 Tryz.results22 rfl) ⟨rfl, rfl⟩

set_option maxHeartbeats 400000 in
theorem f16 (x : Obj) (hx : TabX x) (n : Int) (h0 : -9223372036854775808 ≤ n) (h1 : n ≤ 9223372036854775807) : Fc Tryz.prog 16 [N_ n] [.raw 1 x] (fun y Ω => y = aS (mkB (Lib.itoa n)) ∧ Ω = [.raw 1 x]) := by
  refine Fc.enter Tryz.func16 rfl Tryz.ntmps16 rfl fun X w => ?_
  refine T.rg ?_
  refine L.as rfl rfl ?_
  refine L.nil ?_
  refine T.rg ?_
  refine L.mv rfl rfl ?_
  refine L.callO [] [_] [] rfl e22 rfl rfl (f22 x hx n h0 h1) ?_
  rintro _ _ ⟨rfl, rfl⟩
  refine L.as rfl rfl ?_
  refine L.nil ?_
  refine T.ret ?_
  exact G.ret (res1 Tryz.results16 rfl) ⟨rfl, rfl⟩

set_option maxHeartbeats 4000000 in
theorem f7 (x : Obj) (hx : TabX x) (s : List UInt8) (hs : s.length ≤ 1000000) : Fc Tryz.prog 7 [S_ (mkB s)] [.raw 1 x] (fun y Ω => Ω = [.raw 1 x] ∧ ∃ v, y = .t [N_ v, Bo (numR s)]) := by
  refine Fc.enter Tryz.func7 rfl Tryz.ntmps7 rfl fun X w => ?_
  refine T.rg ?_
  refine L.as rfl rfl ?_
  refine L.as rfl rfl ?_
  refine L.nil ?_
  refine T.rg ?_
  refine L.as rfl rfl ?_
  refine L.nil ?_
  refine T.rg ?_
  refine L.mv rfl rfl ?_
  refine L.as rfl rfl ?_
  refine L.nil ?_
  refine T.cut (fun σ Ω => σ = [(5, aS (mkB (digR s))), (4, aN (sgR s)), (0, aS (mkB s))] ∧ Ω = [.raw 1 x]) ?_ ?_
  · rintro σ Ω ⟨rfl, rfl⟩
    refine T.of_seq ?_
    refine T.rg ?_
    refine L.mv rfl rfl ?_
    refine L.lenS Tryz.underlying9 rfl rfl ?_
    rw [mkB_size]
    refine L.cmp rfl rfl rfl rfl ?_
    refine L.mv rfl rfl ?_
    refine L.caseB 22 rfl (fun h22 => ?_) (fun h22 => ?_)
    · skip
      have hlt1 : (digR s).length < 1 := by have := of_decide_eq_true h22; omega
      refine L.off rfl rfl rfl rfl ?_
      refine L.off rfl rfl rfl rfl ?_
      refine L.off rfl rfl rfl rfl ?_
      refine L.pkT rfl rfl rfl ?_
      refine L.nil ?_
      refine T.condT rfl ?_
      refine T.rg ?_
      refine L.as rfl rfl ?_
      refine L.as rfl rfl ?_
      refine L.nil ?_
      refine T.ret ?_
      exact G.ret (res2 Tryz.results7 rfl rfl) ⟨rfl, _, by rw [show numR s = false from numR_bad (.inl hlt1)]; rfl⟩
    · skip
      have hlt1 : ¬ (digR s).length < 1 := by have := of_decide_eq_false h22; omega
      refine L.on rfl rfl ?_
      refine L.mv rfl rfl ?_
      refine L.on rfl rfl ?_
      refine L.lenS Tryz.underlying9 rfl rfl ?_
      rw [mkB_size]
      refine L.on rfl rfl ?_
      refine L.cmp rfl rfl rfl rfl ?_
      refine L.pkF rfl rfl rfl ?_
      refine L.nil ?_
      refine T.cond rfl (fun h26 => ?_) (fun h26 => ?_)
      · skip
        have h10 : 10 < (digR s).length := by have := of_decide_eq_true h26; omega
        refine T.rg ?_
        refine L.as rfl rfl ?_
        refine L.as rfl rfl ?_
        refine L.nil ?_
        refine T.ret ?_
        exact G.ret (res2 Tryz.results7 rfl rfl) ⟨rfl, _, by rw [show numR s = false from numR_bad (.inr (.inl h10))]; rfl⟩
      · skip
        have h10 : ¬ 10 < (digR s).length := by have := of_decide_eq_false h26; omega
        refine T.skip ?_
        refine T.go (fun _ _ h => h) ?_
        refine T.rg ?_
        refine L.as rfl rfl ?_
        refine L.nil ?_
        refine T.of_seq ?_
        refine T.rg ?_
        refine L.as rfl rfl ?_
        refine L.nil ?_
        refine T.block ?_
        refine T.loop (fun m σ Ω => ∃ k : Nat, k ≤ (digR s).length ∧ m = (digR s).length - k ∧ ((digR s).take k).all isDig = true ∧ σ = [(7, aN k), (6, aN (valL ((digR s).take k))), (5, aS (mkB (digR s))), (4, aN (sgR s)), (0, aS (mkB s))] ∧ Ω = [.raw 1 x]) ((digR s).length) _ (⟨0, Nat.zero_le _, rfl, rfl, rfl, rfl⟩) (by repeat constructor) ?_
        rintro m σ Ω ⟨k, hk, rfl, hall, rfl, rfl⟩
        have hvb := valL_bound _ ((digR s).take k) rfl (fun c hc => List.all_eq_true.1 hall c hc)
        have hp10 := pow_le (k := ((digR s).take k).length) (by rw [List.length_take]; omega)
        refine T.of_seq ?_
        refine T.rg ?_
        refine L.mv rfl rfl ?_
        refine L.mv rfl rfl ?_
        refine L.lenS Tryz.underlying9 rfl rfl ?_
        rw [mkB_size]
        refine L.cmp rfl rfl rfl rfl ?_
        refine L.nil ?_
        refine T.cond rfl (fun h30 => ?_) (fun h30 => ?_)
        · skip
          have hlt : k < (digR s).length := by have := of_decide_eq_true h30; omega
          refine T.skip ?_
          refine T.go (fun _ _ h => h) ?_
          refine T.of_seq ?_
          refine T.block ?_
          refine T.of_seq ?_
          refine T.rg ?_
          refine L.mv rfl rfl ?_
          refine L.mv rfl rfl ?_
          refine L.ixS k Tryz.underlying9 rfl rfl rfl (by rw [mkB_size]; exact hlt) rfl ?_
          rw [mkB_get]
          refine L.cmp rfl rfl rfl rfl ?_
          refine L.mv rfl rfl ?_
          refine L.caseB 37 rfl (fun h37 => ?_) (fun h37 => ?_)
          · skip
            have hb : (digR s)[k].toNat < 48 := by have := of_decide_eq_true h37; omega
            refine L.off rfl rfl rfl rfl ?_
            refine L.off rfl rfl rfl rfl ?_
            refine L.off rfl rfl rfl rfl ?_
            refine L.off rfl rfl rfl rfl ?_
            refine L.pkT rfl rfl rfl ?_
            refine L.nil ?_
            refine T.condT rfl ?_
            refine T.rg ?_
            refine L.as rfl rfl ?_
            refine L.as rfl rfl ?_
            refine L.nil ?_
            refine T.ret ?_
            exact G.ret (res2 Tryz.results7 rfl rfl) ⟨rfl, _, by rw [show numR s = false from numR_bad (.inr (.inr (by rw [List.all_eq_false]; exact ⟨_, List.getElem_mem hlt, by unfold isDig; simp; omega⟩)))]; rfl⟩
          · skip
            have hb : 48 ≤ (digR s)[k].toNat := by have := of_decide_eq_false h37; omega
            refine L.on rfl rfl ?_
            refine L.mv rfl rfl ?_
            refine L.on rfl rfl ?_
            refine L.mv rfl rfl ?_
            refine L.on rfl rfl ?_
            refine L.ixS k Tryz.underlying9 rfl rfl rfl (by rw [mkB_size]; exact hlt) rfl ?_
            rw [mkB_get]
            refine L.on rfl rfl ?_
            refine L.cmp rfl rfl rfl rfl ?_
            refine L.pkF rfl rfl rfl ?_
            refine L.nil ?_
            refine T.cond rfl (fun h42 => ?_) (fun h42 => ?_)
            · skip
              have hb2 : 57 < (digR s)[k].toNat := by have := of_decide_eq_true h42; omega
              refine T.rg ?_
              refine L.as rfl rfl ?_
              refine L.as rfl rfl ?_
              refine L.nil ?_
              refine T.ret ?_
              exact G.ret (res2 Tryz.results7 rfl rfl) ⟨rfl, _, by rw [show numR s = false from numR_bad (.inr (.inr (by rw [List.all_eq_false]; exact ⟨_, List.getElem_mem hlt, by unfold isDig; simp; omega⟩)))]; rfl⟩
            · skip
              have hb2 : (digR s)[k].toNat ≤ 57 := by have := of_decide_eq_false h42; omega
              refine T.skip ?_
              refine T.go (fun _ _ h => h) ?_
              refine T.region ?_
              refine L.mv rfl rfl ?_
              refine L.ar (10 * valL ((digR s).take k)) rfl rfl rfl (by omega) rfl ?_
              refine L.mv rfl rfl ?_
              refine L.mv rfl rfl ?_
              refine L.ixS k Tryz.underlying9 rfl rfl rfl (by rw [mkB_size]; exact hlt) rfl ?_
              rw [mkB_get]
              refine L.cvI ((digR s)[k].toNat : Int) (by rw [Tryz.underlying5]; rfl) Tryz.underlying3 rfl (wrap64_in (by omega) (by omega)) rfl ?_
              refine L.ar (10 * valL ((digR s).take k) + ((digR s)[k].toNat : Int)) rfl rfl rfl (by omega) rfl ?_
              refine L.ar (valL ((digR s).take (k + 1))) rfl rfl rfl (by rw [show (digR s).take (k + 1) = (digR s).take k ++ [(digR s)[k]] by rw [List.take_add_one, List.getElem?_eq_getElem hlt]; rfl, valL_snoc]; omega) rfl ?_
              refine L.as rfl rfl ?_
              refine L.last ?_
              refine T.go (fun _ _ h => h) ?_
              refine T.region ?_
              refine L.mv rfl rfl ?_
              refine L.ar ((k + 1 : Nat) : Int) rfl rfl rfl (by omega) rfl ?_
              refine L.as rfl rfl ?_
              refine L.last ?_
              refine G.round ((digR s).length - (k + 1)) _ (by omega) ⟨k + 1, by omega, rfl, all_snoc hlt hall (by unfold isDig; simp; omega), rfl, rfl⟩ (by repeat constructor)
        · skip
          have hge : (digR s).length ≤ k := by have := of_decide_eq_false h30; omega
          rw [List.take_of_length_le hge] at hvb hp10 hall ⊢
          refine T.exit ?_
          refine T.go (fun _ _ h => h) ?_
          refine T.of_seq ?_
          refine T.rg ?_
          have hsg := sg_cases s
          have hV : -10000000000 ≤ (sgR s * valL (digR s)) ∧ (sgR s * valL (digR s)) ≤ 10000000000 := by rcases hsg with h | h <;> rw [h] <;> omega
          refine L.mv rfl rfl ?_
          refine L.mv rfl rfl ?_
          refine L.ar (sgR s * valL (digR s)) rfl rfl rfl (by omega) rfl ?_
          refine L.callO [] [_] [] rfl e16 rfl rfl (f16 x hx (sgR s * valL (digR s)) (by omega) (by omega)) ?_
          rintro _ _ ⟨rfl, rfl⟩
          refine L.mv rfl rfl ?_
          refine L.neS rfl rfl rfl ?_
          refine L.setB (t := 56) (b' := !decide (Lib.itoa (sgR s * valL (digR s)) = s)) rfl (by rw [decide_eq_decide.2 mkB_inj]) ?_
          refine L.mv rfl rfl ?_
          refine L.caseB 57 rfl (fun h57 => ?_) (fun h57 => ?_)
          · skip
            have hit : decide (Lib.itoa (sgR s * valL (digR s)) = s) = false := by simpa using h57
            refine L.off rfl rfl rfl rfl ?_
            refine L.off rfl rfl rfl rfl ?_
            refine L.off rfl rfl rfl rfl ?_
            refine L.off rfl rfl rfl rfl ?_
            refine L.pkT rfl rfl rfl ?_
            refine L.mv rfl rfl ?_
            refine L.off rfl rfl rfl rfl ?_
            refine L.off rfl rfl rfl rfl ?_
            refine L.off rfl rfl rfl rfl ?_
            refine L.off rfl rfl rfl rfl ?_
            refine L.pkT rfl rfl rfl ?_
            refine L.nil ?_
            refine T.condT rfl ?_
            refine T.rg ?_
            refine L.as rfl rfl ?_
            refine L.as rfl rfl ?_
            refine L.nil ?_
            refine T.ret ?_
            exact G.ret (res2 Tryz.results7 rfl rfl) ⟨rfl, _, by rw [show numR s = false from by rw [numR_good hlt1 h10 hall, hit]; rfl]; rfl⟩
          · skip
            have hit : decide (Lib.itoa (sgR s * valL (digR s)) = s) = true := by simpa using h57
            refine L.on rfl rfl ?_
            refine L.mv rfl rfl ?_
            refine L.on rfl rfl ?_
            refine L.mv rfl rfl ?_
            refine L.on rfl rfl ?_
            refine L.ar (sgR s * valL (digR s)) rfl rfl rfl (by omega) rfl ?_
            refine L.on rfl rfl ?_
            refine L.cmp rfl rfl rfl rfl ?_
            refine L.pkF rfl rfl rfl ?_
            refine L.mv rfl rfl ?_
            refine L.caseB 63 rfl (fun h63 => ?_) (fun h63 => ?_)
            · skip
              refine L.off rfl rfl rfl rfl ?_
              refine L.off rfl rfl rfl rfl ?_
              refine L.off rfl rfl rfl rfl ?_
              refine L.off rfl rfl rfl rfl ?_
              refine L.pkT rfl rfl rfl ?_
              refine L.nil ?_
              refine T.condT rfl ?_
              refine T.rg ?_
              refine L.as rfl rfl ?_
              refine L.as rfl rfl ?_
              refine L.nil ?_
              refine T.ret ?_
              exact G.ret (res2 Tryz.results7 rfl rfl) ⟨rfl, _, by rw [show numR s = false from by rw [numR_good hlt1 h10 hall, hit, h63]; rfl]; rfl⟩
            · skip
              refine L.on rfl rfl ?_
              refine L.mv rfl rfl ?_
              refine L.on rfl rfl ?_
              refine L.mv rfl rfl ?_
              refine L.on rfl rfl ?_
              refine L.ar (sgR s * valL (digR s)) rfl rfl rfl (by omega) rfl ?_
              refine L.on rfl rfl ?_
              refine L.cmp rfl rfl rfl rfl ?_
              refine L.pkF rfl rfl rfl ?_
              refine L.nil ?_
              refine T.cond rfl (fun h68 => ?_) (fun h68 => ?_)
              · skip
                refine T.rg ?_
                refine L.as rfl rfl ?_
                refine L.as rfl rfl ?_
                refine L.nil ?_
                refine T.ret ?_
                exact G.ret (res2 Tryz.results7 rfl rfl) ⟨rfl, _, by rw [show numR s = false from by rw [numR_good hlt1 h10 hall, hit, h63, h68]; rfl]; rfl⟩
              · skip
                refine T.skip ?_
                refine T.go (fun _ _ h => h) ?_
                refine T.rg ?_
                refine L.mv rfl rfl ?_
                refine L.mv rfl rfl ?_
                refine L.ar (sgR s * valL (digR s)) rfl rfl rfl (by omega) rfl ?_
                refine L.as rfl rfl ?_
                refine L.as rfl rfl ?_
                refine L.nil ?_
                refine T.ret ?_
                exact G.ret (res2 Tryz.results7 rfl rfl) ⟨rfl, _, by rw [show numR s = true from by rw [numR_good hlt1 h10 hall, hit, h63, h68]; rfl]; rfl⟩
  · skip
    refine T.rg ?_
    refine L.mv rfl rfl ?_
    refine L.lenS Tryz.underlying9 rfl rfl ?_
    rw [mkB_size]
    refine L.cmp rfl rfl rfl rfl ?_
    refine L.mv rfl rfl ?_
    refine L.caseB 12 rfl (fun h12 => ?_) (fun h12 => ?_)
    · skip
      obtain ⟨c, r, rfl⟩ : ∃ c q, s = c :: q := by
        cases s with
        | nil => cases h12
        | cons c q => exact ⟨c, q, rfl⟩
      refine L.on rfl rfl ?_
      refine L.mv rfl rfl ?_
      refine L.on rfl rfl ?_
      refine L.ixS 0 Tryz.underlying9 rfl rfl rfl (by rw [mkB_size]; simp) rfl ?_
      rw [mkB_get, List.getElem_cons_zero]
      refine L.on rfl rfl ?_
      refine L.cmp rfl rfl rfl rfl ?_
      refine L.setB (t := 15) (b' := decide ((c :: r).head? = some 45)) rfl hd45 ?_
      refine L.pkT rfl rfl rfl ?_
      refine L.nil ?_
      refine T.cond rfl (fun h16 => ?_) (fun h16 => ?_)
      · skip
        have hh : (c :: r).head? = some 45 := of_decide_eq_true h16
        refine T.rg ?_
        refine L.as rfl rfl ?_
        refine L.nil ?_
        refine T.region ?_
        refine L.mv rfl rfl ?_
        refine L.slS 1 (r.length + 1) Tryz.underlying9 rfl ⟨_, rfl⟩ rfl ⟨by omega, by rw [mkB_size]; simp⟩ rfl ?_
        rw [show r.length + 1 = (c :: r).length from rfl, drop_all, List.drop_succ_cons, List.drop_zero]
        refine L.as rfl rfl ?_
        refine L.last ?_
        exact G.cut _ ⟨rfl, rfl⟩ ⟨congrArg (fun z => some (aS (mkB z))) (by unfold digR; rw [if_pos hh]; rfl), congrArg (fun z => some (aN z)) (by unfold sgR; rw [if_pos hh]), rfl, trivial⟩
      · skip
        have hh : ¬ (c :: r).head? = some 45 := of_decide_eq_false h16
        refine T.skip ?_
        exact G.cut _ ⟨rfl, rfl⟩ ⟨congrArg (fun z => some (aS (mkB z))) (by unfold digR; rw [if_neg hh]), congrArg (fun z => some (aN z)) (by unfold sgR; rw [if_neg hh]), rfl, trivial⟩
    · skip
      obtain rfl : s = [] := by
        cases s with
        | nil => rfl
        | cons c q => have := of_decide_eq_false h12; simp at this
      have hh : ¬ ([] : List UInt8).head? = some 45 := by simp
      refine L.off rfl rfl rfl rfl ?_
      refine L.off rfl rfl rfl rfl ?_
      refine L.off rfl rfl rfl rfl ?_
      refine L.pkF rfl rfl rfl ?_
      refine L.nil ?_
      refine T.condF rfl ?_
      refine T.skip ?_
      exact G.cut _ ⟨rfl, rfl⟩ ⟨congrArg (fun z => some (aS (mkB z))) (by unfold digR; rw [if_neg hh]), congrArg (fun z => some (aN z)) (by unfold sgR; rw [if_neg hh]), rfl, trivial⟩

set_option maxHeartbeats 2000000 in
theorem f6 (n : Int) (hn : n ≤ 9223372036854775807) : Fc Tryz.prog 6 [N_ n] [] (Just (aS (mkB (digL n)))) := by
  refine Fc.enter Tryz.func6 rfl Tryz.ntmps6 rfl fun X w => ?_
  refine T.rg ?_
  refine L.as rfl rfl ?_
  refine L.nil ?_
  refine T.of_seq ?_
  refine T.rg ?_
  refine L.mv rfl rfl ?_
  refine L.cmp rfl rfl rfl rfl ?_
  refine L.mv rfl rfl ?_
  refine L.caseB 6 rfl (fun h6 => ?_) (fun h6 => ?_)
  · skip
    have h0 : 0 ≤ n := by have := of_decide_eq_true h6; simpa using this
    obtain ⟨u, rfl⟩ := Int.eq_ofNat_of_zero_le h0
    refine L.on rfl rfl ?_
    refine L.mv rfl rfl ?_
    refine L.on rfl rfl ?_
    refine L.cmp rfl rfl rfl rfl ?_
    refine L.pkT rfl rfl rfl ?_
    refine L.nil ?_
    refine T.cond rfl (fun h9 => ?_) (fun h9 => ?_)
    · skip
      have h10 : u < 10 := by have := of_decide_eq_true h9; omega
      have hdg : digL (u : Int) = [UInt8.ofNat (48 + u)] := by unfold digL; rw [if_neg (by omega), Int.toNat_natCast, Lib.decDigits_one h10]
      refine T.rg ?_
      refine L.mv rfl rfl ?_
      refine L.ar (48 + (u : Int)) rfl rfl rfl (by omega) rfl ?_
      refine L.cvI (48 + (u : Int)) (by rw [Tryz.underlying3]; rfl) Tryz.underlying5 rfl (by rw [IntKind.wrap_u8]; omega) rfl ?_
      refine L.bsD rfl Tryz.underlying51 i5 rfl rfl rfl rfl rfl ?_
      refine L.setV (t := 13) (y := aL 1 (bys (mkB [UInt8.ofNat (48 + u)]))) rfl (by rw [bys_one' h10]) ?_
      refine L.cvBS Tryz.underlying51 Tryz.underlying5 Tryz.underlying9 rfl rfl ?_
      refine L.as rfl rfl ?_
      refine L.nil ?_
      refine T.ret ?_
      exact G.ret (res1 Tryz.results6 rfl) ⟨rfl, by rw [hdg]⟩
    · skip
      have h10 : ¬ u < 10 := by have := of_decide_eq_false h9; omega
      refine T.skip ?_
      refine T.go (fun _ _ h => h) ?_
      refine T.of_seq ?_
      refine T.rg ?_
      refine L.mv rfl rfl ?_
      refine L.cmp rfl rfl rfl rfl ?_
      refine L.nil ?_
      refine T.cond rfl (fun h16 => ?_) (fun h16 => ?_)
      · skip
        exfalso
        have := of_decide_eq_true h16; omega
      · skip
        refine T.skip ?_
        refine T.go (fun _ _ h => h) ?_
        refine T.rg ?_
        refine L.as rfl rfl ?_
        refine L.nil ?_
        refine T.of_seq ?_
        refine T.block ?_
        have hlen : (Lib.decDigits u).length ≤ 20 := by rw [Lib.decDigits_length]; exact Lib.nDigits_le20 u (by omega)
        refine T.loop (fun m σ Ω => ∃ (v : Nat) (r : List UInt8), m = v ∧ v ≤ u ∧ Lib.decDigits u = decP v ++ r ∧ σ = [(3, aS (mkB r)), (0, aN (v : Int))] ∧ Ω = []) (u) _ (⟨u, [], rfl, Nat.le_refl _, by unfold decP; rw [if_neg (by omega), List.append_nil], rfl, rfl⟩) (by repeat constructor) ?_
        rintro m σ Ω ⟨v, r, rfl, hvu, hr, rfl, rfl⟩
        have hrl : r.length ≤ 20 := by have := congrArg List.length hr; rw [List.length_append] at this; omega
        refine T.of_seq ?_
        refine T.rg ?_
        refine L.mv rfl rfl ?_
        refine L.cmp rfl rfl rfl rfl ?_
        refine L.nil ?_
        refine T.cond rfl (fun h18 => ?_) (fun h18 => ?_)
        · skip
          have hpos : 0 < m := by have := of_decide_eq_true h18; omega
          refine T.skip ?_
          refine T.go (fun _ _ h => h) ?_
          refine T.block ?_
          refine T.rg ?_
          refine L.mv rfl rfl ?_
          refine L.remN ((m % 10 : Nat) : Int) rfl rfl (by decide) (by rw [Int.tmod_eq_emod_of_nonneg (by omega)]; omega) rfl ?_
          refine L.ar (48 + ((m % 10 : Nat) : Int)) rfl rfl rfl (by omega) rfl ?_
          refine L.cvI (48 + ((m % 10 : Nat) : Int)) (by rw [Tryz.underlying3]; rfl) Tryz.underlying5 rfl (by rw [IntKind.wrap_u8]; omega) rfl ?_
          refine L.bsD rfl Tryz.underlying51 i5 rfl rfl rfl rfl rfl ?_
          refine L.setV (t := 23) (y := aL 1 (bys (mkB [UInt8.ofNat (48 + m % 10)]))) rfl (by rw [bys_one' (by omega)]) ?_
          refine L.cvBS Tryz.underlying51 Tryz.underlying5 Tryz.underlying9 rfl rfl ?_
          refine L.mv rfl rfl ?_
          refine L.addS rfl rfl (by rw [mkB_size, mkB_size]; simp; omega) rfl ?_
          rw [mkB_app]
          refine L.as rfl rfl ?_
          refine L.nil ?_
          refine T.region ?_
          refine L.mv rfl rfl ?_
          refine L.quoN ((m / 10 : Nat) : Int) rfl rfl (by decide) (by rw [Int.tdiv_eq_ediv_of_nonneg (by omega), wrap64_in (by omega) (by omega)]; omega) rfl ?_
          refine L.as rfl rfl ?_
          refine L.last ?_
          refine G.round (m / 10) [(3, aS (mkB (UInt8.ofNat (48 + m % 10) :: r))), (0, aN ((m / 10 : Nat) : Int))] (by omega) ⟨m / 10, UInt8.ofNat (48 + m % 10) :: r, rfl, by omega, by rw [hr, decP_step hpos, List.append_assoc]; rfl, rfl, rfl⟩ (by repeat constructor)
        · skip
          have hz : m = 0 := by have := of_decide_eq_false h18; omega
          subst hz
          refine T.exit ?_
          refine T.go (fun _ _ h => h) ?_
          refine T.rg ?_
          refine L.mv rfl rfl ?_
          refine L.as rfl rfl ?_
          refine L.nil ?_
          refine T.ret ?_
          exact G.ret (res1 Tryz.results6 rfl) ⟨rfl, by unfold digL; rw [if_neg (by omega), Int.toNat_natCast, hr]; rfl⟩
  · skip
    have h0 : n < 0 := by have := of_decide_eq_false h6; simp at this; omega
    refine L.off rfl rfl rfl rfl ?_
    refine L.off rfl rfl rfl rfl ?_
    refine L.pkF rfl rfl rfl ?_
    refine L.nil ?_
    refine T.condF rfl ?_
    refine T.skip ?_
    refine T.go (fun _ _ h => h) ?_
    refine T.of_seq ?_
    refine T.rg ?_
    refine L.mv rfl rfl ?_
    refine L.cmp rfl rfl rfl rfl ?_
    refine L.nil ?_
    refine T.cond rfl (fun h16 => ?_) (fun h16 => ?_)
    · skip
      refine T.rg ?_
      refine L.as rfl rfl ?_
      refine L.nil ?_
      refine T.ret ?_
      exact G.ret (res1 Tryz.results6 rfl) ⟨rfl, by unfold digL; rw [if_pos h0]; rfl⟩
    · skip
      exfalso
      have := of_decide_eq_false h16; omega
end Go.Proofs.YtimimkdgofiloaaGreatDoor
