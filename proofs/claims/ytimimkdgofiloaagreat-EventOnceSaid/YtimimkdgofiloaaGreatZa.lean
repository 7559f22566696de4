/- The statement EventOnce: of every input the call returns true, and each argument reads as it did; under no condition. -/
import Derived.Test.YtimimkdgofiloaaGreatRows
import Derived.Test.YtimimkdgofiloaaGreatS36
import Derived.Test.YtimimkdgofiloaaGreatQt
import Derived.WalkKit
import Derived.OpenShut
import Derived.ShutString
namespace Go.Proofs.YtimimkdgofiloaaGreat
open Go Go.Q
open Go.ChangeShapes Go.WideShapes Go.ChangeAt Go.RowKit
open Go.ChangeMaps (open_string shut_string)

theorem all_map {α : Type} {g : α → List D} : ∀ {els : List (List D)}, (∀ e ∈ els, ∃ x, e = g x) → ∃ l : List α, els = l.map g
  | [], _ => ⟨[], rfl⟩
  | e :: els, h => by
    obtain ⟨x, hx⟩ := h e (by simp)
    obtain ⟨l, hl⟩ := all_map (els := els) fun e he => h e (by simp [he])
    exact ⟨x :: l, by rw [hx, hl]; rfl⟩

theorem one_str {e : List D} (h : HasShs [.s] e) : ∃ x : ByteArray, e = [D.s x] := by
  simp only [HasShs, HasSh] at h
  obtain ⟨d, r, rfl, ⟨x, rfl, _⟩, rfl⟩ := h
  exact ⟨x, rfl⟩
theorem two_str {e : List D} (h : HasShs [.s, .s] e) : ∃ p : ByteArray × ByteArray, e = [D.s p.1, D.s p.2] := by
  simp only [HasShs, HasSh] at h
  obtain ⟨d, r, rfl, ⟨x, rfl, _⟩, d2, r2, rfl, ⟨y, rfl, _⟩, rfl⟩ := h
  exact ⟨(x, y), rfl⟩
theorem str_int {e : List D} (h : HasShs [.s, .i .i64] e) : ∃ p : ByteArray × Int, e = [D.s p.1, D.i .i64 p.2] := by
  simp only [HasShs, HasSh] at h
  obtain ⟨d, r, rfl, ⟨x, rfl, _⟩, d2, r2, rfl, ⟨y, rfl, _⟩, rfl⟩ := h
  exact ⟨(x, y), rfl⟩
theorem ear_of {e : List D} (h : HasShs [.s, .b, .b] e) : ∃ p : EarV, e = [D.s p.1, D.b p.2.1, D.b p.2.2] := by
  simp only [HasShs, HasSh] at h
  obtain ⟨d, r, rfl, ⟨x, rfl, _⟩, d2, r2, rfl, ⟨y, rfl⟩, d3, r3, rfl, ⟨z, rfl⟩, rfl⟩ := h
  exact ⟨(x, y, z), rfl⟩

abbrev flatSh : List Sh := [.i .i64, .i .i64, .s, .s, .s, .l [.s], .l [.s, .s], .l [.s, .i .i64], .i .i64, .i .i64, .i .i64, .i .i64, .b, .b]
theorem flat_of {e : List D} (h : HasShs flatSh e) : ∃ f : FlatV, e = f.d := by
  simp only [flatSh, HasShs, HasSh] at h
  obtain ⟨_, _, rfl, ⟨deep, rfl, _⟩, _, _, rfl, ⟨kind, rfl, _⟩, _, _, rfl, ⟨tag, rfl, _⟩, _, _, rfl, ⟨key, rfl, _⟩, _, _, rfl, ⟨text, rfl, _⟩, _, _, rfl, ⟨cl, rfl, _, hcl⟩, _, _, rfl, ⟨at', rfl, _, hat⟩, _, _, rfl, ⟨st, rfl, _, hst⟩,
    _, _, rfl, ⟨a, rfl, _⟩, _, _, rfl, ⟨b, rfl, _⟩, _, _, rfl, ⟨c, rfl, _⟩, _, _, rfl, ⟨d, rfl, _⟩, _, _, rfl, ⟨x, rfl⟩, _, _, rfl, ⟨y, rfl⟩, rfl⟩ := h
  obtain ⟨cl, rfl⟩ := all_map fun e he => one_str (by simpa only [HasShs, HasSh] using hcl e he)
  obtain ⟨at', rfl⟩ := all_map fun e he => two_str (by simpa only [HasShs, HasSh] using hat e he)
  obtain ⟨st, rfl⟩ := all_map fun e he => str_int (by simpa only [HasShs, HasSh] using hst e he)
  exact ⟨⟨deep, kind, tag, key, text, cl, at', st, ⟨a, b, c, d, x, y⟩⟩, rfl⟩
theorem flats_of {ds : List D} (h : HasShs [.l flatSh] ds) : ∃ l : List FlatV, ds = [.l 14 (flats l)] := by
  simp only [HasShs, HasSh] at h
  obtain ⟨_, _, rfl, ⟨els, rfl, _, hels⟩, rfl⟩ := h
  obtain ⟨l, rfl⟩ := all_map fun e he => flat_of (by simpa only [flatSh, HasShs, HasSh] using hels e he)
  exact ⟨l, rfl⟩
theorem ears_of {ds : List D} (h : HasShs [.l [.s, .b, .b]] ds) : ∃ l : List EarV, ds = [.l 3 (earS l)] := by
  simp only [HasShs, HasSh] at h
  obtain ⟨_, _, rfl, ⟨els, rfl, _, hels⟩, rfl⟩ := h
  obtain ⟨l, rfl⟩ := all_map fun e he => ear_of (by simpa only [HasShs, HasSh] using hels e he)
  exact ⟨l, rfl⟩

theorem sh22 : shOf Tryz.prog 6 22 = some [.l flatSh] := by kernel_rfl
theorem sh23 : shOf Tryz.prog 6 23 = some [.l [.s, .b, .b]] := by kernel_rfl
theorem own : ownKnob Tryz.prog.godebug = none := by kernel_rfl
theorem laidOut : laidOutB Tryz.prog = true := by kernel_rfl

set_option maxRecDepth 100000 in
theorem eventOnce_lifted (os : Os) (started : os.Started) (H : Type) (enc : TypeId × Value → H) :
    ReturnsInHanded {} Tryz.checked os 3 .any (Rows.eventOnceSpec.pre6 enc Tryz.prog Tryz.f3 Rows.eventOnceRow.domain false) (Rows.eventOnceSpec.post enc Tryz.prog Tryz.f3 false true false false) := by
  refine returnsInHanded_of_change (C := Tryz.checked) own started (by kernel_rfl) Tryz.func3
    (ChangeSpec.witness6 (enc := enc) (C := Tryz.checked) false ⟨#[], #[.slice none 0 0, .slice none 0 0, .int .i64 0], []⟩ 8 (by kernel_rfl) (by kernel_rfl) (by kernel_rfl) (by kernel_rfl)) ?_
  intro W base args ds gs before hval0 hW hcnd _
  have hval : ∀ (j : Nat) t v, Tryz.f3.params[j]? = some t → args[j]? = some v → Value.okWide Tryz.prog W .any base t v := hval0
  have hW' := hW
  obtain ⟨p, q, hA0, hV, rfl, hfz, hnd⟩ := hW
  have hA : DataW.TrodAll enc Tryz.prog W 0 (fun _ => true) true Tryz.f3.params.toList args.toList ds p := hA0
  rw [Tryz.params3] at hA hval
  obtain ⟨v0, vs0, d0, ds0, p0, q0, hargs, rfl, rfl, h0, r0⟩ := trodAll_cons hA
  obtain ⟨v1, vs1, d1, ds1, p1, q1, rfl, rfl, rfl, h1, r1⟩ := trodAll_cons r0
  obtain ⟨v2, vs2, d2, ds2, p2, q2, rfl, rfl, rfl, h2, r2⟩ := trodAll_cons r1
  obtain ⟨rfl, rfl, rfl⟩ := trodAll_nil r2
  obtain rfl : args = #[v0, v1, v2] := by cases args; simp_all
  obtain ⟨rfl, rfl⟩ := trodVars_none hV
  obtain ⟨a0, len0, cap0, rfl⟩ := okWide_slice Tryz.underlying22 (hval 0 22 v0 rfl rfl)
  obtain ⟨a1, len1, cap1, rfl⟩ := okWide_slice Tryz.underlying23 (hval 1 23 v1 rfl rfl)
  have k0 := h0
  have k1 := h1
  have lt0 : ∀ x ∈ p0, x.block < W.heap.size := by obtain ⟨m, hm⟩ := k0; exact DataW.trod_lt m _ _ _ hm
  have lt1 : ∀ x ∈ p1, x.block < W.heap.size := by obtain ⟨m, hm⟩ := k1; exact DataW.trod_lt m _ _ _ hm
  obtain ⟨n2, rfl, rfl, rfl, w2⟩ := open_int Tryz.underlying3 (hval 2 3 v2 rfl rfl) h2
  obtain ⟨l, hl⟩ : ∃ l : List FlatV, Rc [] W (.slice a0 len0 cap0) (.l 14 (flats l)) := by
    obtain ⟨fuel, hf⟩ := h0
    obtain ⟨ds, hd1, hd2⟩ := read_shape 6 22 _ sh22 fuel _ _ hf
    obtain ⟨l, rfl⟩ := flats_of hd2
    exact ⟨l, hd1.1⟩
  obtain ⟨es, hes⟩ : ∃ l : List EarV, Rc [] W (.slice a1 len1 cap1) (.l 3 (earS l)) := by
    obtain ⟨fuel, hf⟩ := h1
    obtain ⟨ds, hd1, hd2⟩ := read_shape 6 23 _ sh23 fuel _ _ hf
    obtain ⟨l, rfl⟩ := ears_of hd2
    exact ⟨l, hd1.1⟩
  clear hA0 hval0
  refine (Fc.law (f3 l es n2) (W := W) (args := [.slice a0 len0 cap0, .slice a1 len1 cap1, .int .i64 n2]) ⟨hl, hes, Rc.i _ _, trivial⟩).mono fun e W' ⟨he, bel⟩ => ?_
  subst he
  exact ⟨_, rfl, _, _, _, [], _, [], hW', trodAll_mk1 (shut_bool Tryz.underlying4 _), (trodAll_cons_mk (Below.trod laidOut (by kernel_rfl) (of_decide_eq_true (by kernel_rfl)) k0 bel lt0) (trodAll_cons_mk (Below.trod laidOut (by kernel_rfl) (of_decide_eq_true (by kernel_rfl)) k1 bel lt1) (trodAll_cons_mk (shut_int Tryz.underlying3 w2) trodAll_mk0))), rfl, bel.frame _, fun h => by cases h⟩

/-- A listener is called at most once at a node, and along the path alone; without Stop all that fit there are. -/
theorem eventOnce_holds : Rows.EventOnceSaid :=
  OpenClaim.holds_of_wide 3 Tryz.f3 rfl rfl rfl rfl rfl rfl rfl ⟨rfl, rfl, rfl, rfl, rfl⟩ rfl rfl rfl rfl rfl (by kernel_rfl) Tryz.func3 (by kernel_rfl)
    (of_decide_eq_true (by kernel_rfl)) (by unfold Func.isWrapper; rw [if_neg (of_decide_eq_false (by kernel_rfl))]; exact ⟨rfl, rfl⟩)
    (fun os started H enc _ => eventOnce_lifted os started H enc)
#print axioms eventOnce_holds
end Go.Proofs.YtimimkdgofiloaaGreat
