/- The statement LineNumbers: of every input the call returns true, and each argument reads as it did; where the listed tables of the library hold what the program's text lays. -/
import Derived.Test.YtimimkdgofiloaaGreatDoorRows
import Derived.Test.YtimimkdgofiloaaGreatDoorCards
import Derived.Test.YtimimkdgofiloaaGreatDoorTie
import Derived.Test.YtimimkdgofiloaaGreatDoorS57
import Derived.WalkKit
import Derived.ProofKit
import Derived.OpenShut
import Derived.ShutString
import Derived.Lay
import Derived.Lib.LaidU8
import Derived.SevenTiedAt
namespace Go.Proofs.YtimimkdgofiloaaGreatDoor
open Go Go.Q
open Go.ChangeShapes Go.WideShapes Go.ChangeAt Go.RowKit

theorem all_map {α : Type} {g : α → List D} : ∀ {els : List (List D)}, (∀ e ∈ els, ∃ x, e = g x) → ∃ l : List α, els = l.map g
  | [], _ => ⟨[], rfl⟩
  | e :: els, h => by
    obtain ⟨x, hx⟩ := h e (by simp)
    obtain ⟨l, hl⟩ := all_map (els := els) fun e he => h e (by simp [he])
    exact ⟨x :: l, by rw [hx, hl]; rfl⟩
theorem one_int {e : List D} (h : HasShs [.i .i64] e) : ∃ n : Int, e = [D.i .i64 n] ∧ n ≤ 9223372036854775807 := by
  simp only [HasShs, HasSh] at h
  obtain ⟨d, r, rfl, ⟨n, rfl, hw⟩, rfl⟩ := h
  refine ⟨n, rfl, ?_⟩
  simp [Lit.wf, IntKind.min, IntKind.max, IntKind.signed, IntKind.bits] at hw
  omega
theorem ints_of' : ∀ {els : List (List D)}, (∀ e ∈ els, HasShs [.i .i64] e) → ∃ l : List Int, els = ints l ∧ ∀ n ∈ l, n ≤ 9223372036854775807
  | [], _ => ⟨[], rfl, by simp⟩
  | e :: els, h => by
    obtain ⟨n, rfl, hn⟩ := one_int (h e (by simp))
    obtain ⟨l, rfl, hl⟩ := ints_of' (els := els) fun e he => h e (by simp [he])
    exact ⟨n :: l, rfl, fun m hm => by
      rcases List.mem_cons.1 hm with rfl | h1
      · exact hn
      · exact hl m h1⟩
theorem ints_of {ds : List D} (h : HasShs [.l [.i .i64]] ds) : ∃ l : List Int, ds = [.l 1 (ints l)] ∧ ∀ n ∈ l, n ≤ 9223372036854775807 := by
  simp only [HasShs, HasSh] at h
  obtain ⟨_, _, rfl, ⟨els, rfl, _, hels⟩, rfl⟩ := h
  obtain ⟨l, rfl, hl⟩ := ints_of' fun e he => by simpa only [HasShs, HasSh] using hels e he
  exact ⟨l, rfl, hl⟩
/-- Numbers that came in lie elsewhere than a table of another kind. -/
theorem ints_away {W : World} {g : Nat} {x : Obj} (hg : W.heap[g]? = some x) (hx : TabX x) {v : Value} {l : List Int} (h : Rc [] W v (.l 1 (ints l))) : Rc [g] W v (.l 1 (ints l)) := by
  obtain ⟨T, fr, rfl⟩ := hx
  generalize hes : ints l = es at h
  cases h with
  | nil a c => exact .nil a c _
  | l b o n c _ _ cs hn hc hm hb hX hs hcell hrec =>
    subst hes
    cases l with
    | nil =>
      obtain rfl : n = 0 := by rw [← hn]; rfl
      exact .nil _ _ _
    | cons m l =>
      have hne : b ≠ g := by
        intro e
        subst e
        have hn0 : 0 < n := by rw [← hn]; simp [ints]
        have h1 := hcell 0 0 hn0 (by omega)
        have h2 : cs 0 0 = .int .i64 m := Rc.int_inv (hrec 0 0 [D.i .i64 m] (D.i .i64 m) rfl rfl)
        rw [h2, cell_of_row W b _ _ T fr hg] at h1
        simp at h1
      exact .l b o n c 1 _ cs hn hc hm hb (by simpa using hne) hs hcell fun i j e d he hd => by
        have hmem := List.mem_of_getElem? he
        obtain ⟨q, _, rfl⟩ := List.mem_map.1 hmem
        cases j with
        | zero =>
          simp at hd; subst hd
          rw [Rc.int_inv (hrec i 0 _ _ he rfl)]; exact Rc.i _ _
        | succ j => simp at hd
/-- At a call's start, a variable's block owned. -/
theorem startG (W : World) {g : Nat} {x : Obj} (hg : W.heap[g]? = some x) : St ⟨[], owns [.raw g x], W, none, []⟩ [.raw g x] W :=
  ⟨rfl, rfl, rfl, Nat.le_refl _, fun _ _ _ => rfl, by simp [owns, Ob.own], fun b hb => by
    simp [owns, Ob.own] at hb; subst hb; exact (Array.getElem?_eq_some_iff.1 hg).1, fun b hb => .inl hb, fun _ _ h => by simp at h, fun _ h => by simp at h, fun o ho => by
    obtain rfl := List.mem_singleton.1 ho; exact hg⟩
theorem lawG {f : FuncId} {ss : List SV} {g : Nat} {x : Obj} (hF : Fc Tryz.prog f ss [.raw g x] (fun r Ω => Ω = [.raw g x] ∧ r = aB true)) {W : World} (hg : W.heap[g]? = some x) {args : List Value} (ha : All2 (Rsv [g] W) args ss) :
    Calls Tryz.prog f args.toArray W fun e W' => e = .returned (.bool true) ∧ RowKit.Below W.heap.size W W' := by
  refine (hF [] W args (startG W hg) (by simpa [owns, Ob.own] using ha)).mono ?_
  rintro e W' ⟨v, y, Ω', rfl, ⟨rfl, rfl⟩, hs, hv⟩
  have hv' : v = .bool true := Rc.bool_inv hv
  subst hv'
  refine ⟨rfl, hs.os, hs.tape, hs.output, hs.size, fun k hk => ?_⟩
  by_cases hkg : k = g
  · subst hkg
    exact (show W'.heap[k]? = some x from hs.obs (.raw k x) (by simp)).trans hg.symm
  · exact hs.kept k hk (by simpa [owns, Ob.own] using hkg)

theorem sh22 : shOf Tryz.prog 6 22 = some [.l [.i .i64]] := by kernel_rfl
theorem own : ownKnob Tryz.prog.godebug = none := by kernel_rfl
theorem laidOut : laidOutB Tryz.prog = true := by kernel_rfl
abbrev laidL : List (String × DataW Unit) := Rows.lineNumbersRow.laid
theorem pow_data : (Rows.laid_internal_strconv_uint64pow10 : DataW Unit) = Lib.tabData .u64 Lib.pow10Tab := by kernel_rfl

set_option maxRecDepth 100000 in
theorem lineNumbers_lifted (os : Os) (started : os.Started) (H : Type) (enc : TypeId × Value → H) :
    ReturnsInHanded {} Tryz.checked os 3 .any (fun w args => (Rows.lineNumbersSpec.pre enc Tryz.prog Tryz.f3 [] false w args ∧ laidMetH Tryz.prog laidL w) ∧ sizedMet enc Tryz.prog Tryz.f3 (OpenSpec.ofChange Rows.lineNumbersSpec) false w args)
      (Rows.lineNumbersSpec.post enc Tryz.prog Tryz.f3 false true false false) := by
  refine returnsInHanded_of_change_and (C := Tryz.checked) (X := fun w _ => laidMetH Tryz.prog laidL w) (fun _ _ _ hh h => h.of_heap hh) own started (by kernel_rfl) Tryz.func3
    (ChangeSpec.witness_shaped (enc := enc) (C := Tryz.checked) (os := os) (X := fun w _ => laidMetH Tryz.prog laidL w) false (World.laidAll Tryz.prog os laidL) #[.slice none 0 0, .int .i64 0] 8 (World.laidAll_os _ _ _)
      (World.shaped_of_ZipB (by kernel_rfl) (by kernel_rfl)) (by kernel_rfl) (by kernel_rfl) (by kernel_rfl)
      (by rw [MakeChecks.laidMetH_plain _ _ _ (by kernel_rfl)]; exact laidMet_laidAll _ (by kernel_rfl) (by kernel_rfl))) ?_
  intro W base args ds gs before hval0 hW _ _ hL _
  have hval : ∀ (j : Nat) t v, Tryz.f3.params[j]? = some t → args[j]? = some v → Value.okWide Tryz.prog W .any base t v := hval0
  have hW' := hW
  obtain ⟨p, q, hA0, hV, rfl, hfz, hnd⟩ := hW
  have hA : DataW.TrodAll enc Tryz.prog W 0 (fun _ => true) true Tryz.f3.params.toList args.toList ds p := hA0
  rw [Tryz.params3] at hA hval
  obtain ⟨v0, vs0, d0, ds0, p0, q0, hargs, rfl, rfl, h0, r0⟩ := trodAll_cons hA
  obtain ⟨v1, vs1, d1, ds1, p1, q1, rfl, rfl, rfl, h1, r1⟩ := trodAll_cons r0
  obtain ⟨rfl, rfl, rfl⟩ := trodAll_nil r1
  obtain rfl : args = #[v0, v1] := by cases args; simp_all
  obtain ⟨rfl, rfl⟩ := trodVars_none hV
  obtain ⟨a0, len0, cap0, rfl⟩ := okWide_slice Tryz.underlying22 (hval 0 22 v0 rfl rfl)
  have k0 := h0
  have lt0 : ∀ x ∈ p0, x.block < W.heap.size := by obtain ⟨m, hm⟩ := k0; exact DataW.trod_lt m _ _ _ hm
  obtain ⟨n1, rfl, rfl, rfl, w1⟩ := open_int Tryz.underlying3 (hval 1 3 v1 rfl rfl) h1
  obtain ⟨l, hl, hlb⟩ : ∃ l : List Int, Rc [] W (.slice a0 len0 cap0) (.l 1 (ints l)) ∧ ∀ n ∈ l, n ≤ 9223372036854775807 := by
    obtain ⟨fuel, hf⟩ := h0
    obtain ⟨ds, hd1, hd2⟩ := read_shape 6 22 _ sh22 fuel _ _ hf
    obtain ⟨l, rfl, hb⟩ := ints_of hd2
    exact ⟨l, hd1.1, hb⟩
  clear hA0 hval0
  rw [MakeChecks.laidMetH_plain _ _ _ (by kernel_rfl)] at hL
  obtain ⟨x, hx, hgx⟩ : ∃ x, TabX x ∧ W.heap[1]? = some x := by
    obtain ⟨g, t, cs, fuel, pp, hg, ht, hvar, hd⟩ := Lib.laidMet.reads hL (n := "internal/strconv.uint64pow10") (d := Rows.laid_internal_strconv_uint64pow10) (.tail _ (.tail _ (.head _)))
    obtain rfl := Option.some.inj ((show Tryz.prog.globalNamed "internal/strconv.uint64pow10" = some 1 from laysI.m17).symm.trans hg)
    obtain rfl := Option.some.inj ((show (Tryz.prog.globals[1]?).map (·.type) = some 137 by kernel_rfl).symm.trans ht)
    rw [pow_data] at hd
    have hcs := Lib.cells_of_tab Tryz.underlying137 Tryz.underlying114 (by kernel_rfl) (by kernel_rfl) hd
    unfold World.var? at hvar
    rw [show Tryz.prog.globalNamed "internal/strconv.uint64pow10" = some 1 from laysI.m17] at hvar
    simp only [Option.bind_some] at hvar
    cases hh : W.heap[1]? with
    | none => rw [hh] at hvar; cases hvar
    | some o =>
      rw [hh] at hvar
      cases o with
      | cells c T fr =>
        simp only [Option.some.injEq] at hvar
        subst hvar
        exact ⟨_, ⟨T, fr, by rw [← hcs]⟩, rfl⟩
      | _ => cases hvar
  refine (lawG (f3 x hx l hlb n1) (W := W) hgx (args := [.slice a0 len0 cap0, .int .i64 n1]) ⟨ints_away hgx hx hl, Rc.i _ _, trivial⟩).mono fun e W' ⟨he, bel⟩ => ?_
  subst he
  exact ⟨_, rfl, _, _, _, [], _, [], hW', trodAll_mk1 (shut_bool Tryz.underlying4 _), (trodAll_cons_mk (Below.trod laidOut (by kernel_rfl) (of_decide_eq_true (by kernel_rfl)) k0 bel lt0) (trodAll_cons_mk (shut_int Tryz.underlying3 w1) trodAll_mk0)), rfl, bel.frame _, fun h => by cases h⟩

theorem lineNumbers_row : Rows.LineNumbersSaid :=
  OpenClaim.holds_of_wide 3 Tryz.f3 rfl rfl rfl rfl rfl rfl rfl ⟨rfl, rfl, rfl, rfl, rfl⟩ rfl rfl rfl rfl rfl (by kernel_rfl) Tryz.func3 (by kernel_rfl)
    (of_decide_eq_true (by kernel_rfl)) (by unfold Func.isWrapper; rw [if_neg (of_decide_eq_false (by kernel_rfl))]; exact ⟨rfl, rfl⟩)
    (fun os started H enc _ => lineNumbers_lifted os started H enc)

/-- Five numbers that may be are read, with whatever blanks, and no fewer, and no more: the tied card. -/
theorem lineNumbers_holds : Rows.LineNumbersCardSaid :=
  Claim7.holds_tied_plain_at .later [] [.data, .data, .data, .data, .pinned] true (true, "e42d5cfa57a30a18d6278fdc13f883451cba6537da41d351e95b467a66ed36eb") true
    lineNumbers_row (fun _ h => by cases h) (by kernel_rfl) (fun _ h => by cases h) lineNumbers_row_tie rfl ⟨rfl, rfl⟩ (by kernel_rfl) rfl
    (fun f fn hf hfn => by
      obtain rfl : f = 3 := Option.some.inj ((show Tryz.prog.funcNamed "scrim/scrimlaw30.LineNumbers" = some 3 by kernel_rfl).symm.trans hf) |>.symm
      obtain rfl : fn = Tryz.f3 := (Option.some.inj (Tryz.func3.symm.trans hfn)).symm
      exact ⟨by kernel_rfl, fun j t ht => by
        rw [Tryz.params3] at ht
        have hm : t ∈ [22, 3] := by simpa using Array.mem_of_getElem? ht
        have hall : ([22, 3].all fun u => !Tryz.prog.wantsStandIn u) = true := by kernel_rfl
        exact (show Tryz.prog.wantsStandIn t = false by simpa using List.all_eq_true.1 hall t hm)⟩)
    (by kernel_rfl)
#print axioms lineNumbers_holds
end Go.Proofs.YtimimkdgofiloaaGreatDoor
