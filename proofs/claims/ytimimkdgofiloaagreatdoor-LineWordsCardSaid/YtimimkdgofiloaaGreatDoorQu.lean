/- A deferred closure that recovers. -/
import Derived.Test.YtimimkdgofiloaaGreatDoorQz
import Derived.RecoverIn
import Derived.WideLaws
namespace Go.Q
open Go

/-- A deferred call's contract: how the frame below leaves, and how it does then. -/
def FcD (P : Program) (f : FuncId) (as : List SV) (Ω : List Ob) (u u' : FrameMode) (R : List Ob → Prop) : Prop :=
  ∀ (X : List Nat) (w : World) (args : List Value), St ⟨X, owns Ω, w, none, []⟩ Ω w → All2 (Rsv (owns Ω ++ X) w) args as →
    CallsDIn Fence.wide 0 P f args.toArray u w fun e m w' => ∃ v Ω', e = .returned v ∧ m = u' ∧ R Ω' ∧ St ⟨X, owns Ω, w, none, []⟩ Ω' w'
def PostD (P : Program) (fn : Func) (c₀ : Frame) (cs : List Frame) (C : Ctx) (u' : FrameMode) (R : List Ob → Prop) : Exit → Act → List Frame → World → Prop :=
  bodyPostS P fn c₀ cs fun e m w' => ∃ v Ω', e = .returned v ∧ m = u' ∧ R Ω' ∧ St C Ω' w'
/-- What recover finds. -/
def Found (u u' : FrameMode) (v : Value) : Prop := ∀ (c₀ : Frame) (cs : List Frame), c₀.mode = u → (recoverD (c₀ :: cs) = some (v, { c₀ with mode := u' } :: cs)) ∨ (recoverD (c₀ :: cs) = none ∧ v = .nilIface ∧ { c₀ with mode := u' } = c₀)
theorem found_pan (v : Value) : Found (.panicking (pan v)) (.panicking [{ v := v, recovered := true }]) v := fun c₀ cs h => .inl (by simp [recoverD, h, pan])
theorem found_nil : Found .returning .returning .nilIface := fun c₀ cs h => .inr ⟨by simp [recoverD, h], rfl, by rw [← h]⟩

theorem FcD.enter {P : Program} {f : FuncId} {fn : Func} {c : Code} {as : List SV} {Ω : List Ob} {u u' : FrameMode} {v : Value} {R : List Ob → Prop} {id t s : Nat} {ty ty2 : TypeId} {pos pos2 : String} {after after2 : Array Edge} (hf : P.funcs[f]? = some fn)
    (hb : fn.body = some (.seq (.region id #[{ dst := some t, op := .call { callee := .builtin .recover, args := #[], argTypes := #[] }, type := ty, pos, after, guard := none }, { dst := some s, op := .assign (.tmp t), type := ty2, pos := pos2, after := after2, guard := none }] false) c))
    {n : Nat} (hn : fn.ntmps = n) (hsz : Nat.ble as.length n = true) (ht : Nat.blt t n = true) (hs : Nat.blt s n = true) (hu : Found u u' v) (hv : v.oneCell' = true)
    (h : ∀ X w c₀ cs, T P ⟨X, owns Ω, w, none, []⟩ n (fun e a w' => PostD P fn c₀ cs ⟨X, owns Ω, w, none, []⟩ u' R e a ({ c₀ with mode := u' } :: cs) w') c ((s, aR v) :: (t, aR v) :: argEnv 0 as) Ω) : FcD P f as Ω u u' R := by
  intro X w args hs' ha
  refine callsDIn_of_wpSIn hf hb trivial fun c₀ cs hm => wpSIn_seq ?_
  have hH : Has n [] (owns Ω ++ X) w { tmps := args.toArray ++ Array.replicate (fn.ntmps - args.toArray.size) undef, defers := [] } (argEnv 0 as) := by
    refine ⟨?_, rfl, ?_⟩
    · have := ha.length
      have hle : as.length ≤ n := by simpa using hsz
      simp [hn]
      omega
    · refine argEnv_get args as 0 (fun i v hv => ?_) ha
      have hi : i < args.length := (List.getElem?_eq_some_iff.1 hv).1
      rw [Nat.zero_add, Array.getElem?_append_left (by simpa using hi)]
      simpa using hv
  generalize ({ tmps := args.toArray ++ Array.replicate (fn.ntmps - args.toArray.size) undef, defers := [] } : Act) = a at hH
  have hH1 := hH.put (v := v) (x := aR v) (bltLt ht) ⟨rfl, hv⟩
  have hev : (a.put (some t) v).eval (.tmp t) = v := by
    obtain ⟨v', h1, h2⟩ := hH1.val (x := .tmp t) (y := aR v) (by simp [ev, List.lookup])
    rw [h1]; exact h2.1
  have hH2 := hH1.put (v := v) (x := aR v) (bltLt hs) ⟨rfl, hv⟩
  refine wpSIn_region ?_
  have hrest : (Code.wpSIn Fence.wide 0 P c (bodyPostS P fn c₀ cs fun e m w' => ∃ v Ω', e = .returned v ∧ m = u' ∧ R Ω' ∧ St ⟨X, owns Ω, w, none, []⟩ Ω' w')) ((a.put (some t) v).put (some s) v) ({ c₀ with mode := u' } :: cs) w :=
    wpSIn_of_wpIn rfl (h X w c₀ cs _ w hs' hH2)
  show wpOpsSIn Fence.wide 0 P _ _ [0, 1] a (c₀ :: cs) w
  generalize (bodyPostS P fn c₀ cs fun e m w' => ∃ v Ω', e = .returned v ∧ m = u' ∧ R Ω' ∧ St ⟨X, owns Ω, w, none, []⟩ Ω' w') = Q' at hrest ⊢
  rcases hu c₀ cs hm with h1 | ⟨h1, h2, h3⟩
  · simp [wpOpsSIn, Region.wanted, Oper.about, execOp, resolve, invoke, builtin, h1, hev]
    exact ⟨fun _ _ => trivial, hrest⟩
  · subst h2
    rw [h3] at hrest
    simp [wpOpsSIn, Region.wanted, Oper.about, execOp, resolve, invoke, builtin, h1, hev]
    exact ⟨fun _ _ => trivial, hrest⟩

section
variable {P : Program} {C : Ctx} {n : Nat} {ops : Array Oper} {Q : Pst} {rest : List Oper} {σ σ' : Env} {Ω Ω' A B : List Ob} {d : Nat} {ty : TypeId} {pos : String} {after : Array Edge}

/-- The end of a deferred closure. -/
theorem G.endD {fn : Func} {c₀ : Frame} {cs : List Frame} {C' : Ctx} {u' : FrameMode} {R : List Ob → Prop} (hr : fn.results = #[]) (hR : R Ω) (hds : C.ds = [] := by rfl) (hC : ∀ w, St C Ω w → St C' Ω w := by exact fun _ h => h) :
    G C n (fun a w => PostD P fn c₀ cs C' u' R .normal a ({ c₀ with mode := u' } :: cs) w) σ Ω := fun a w hs ha =>
  ⟨ha.defers.trans hds, u', rfl, .tuple #[], by simp [results, hr], _, Ω, rfl, rfl, hR, hC w hs⟩

/-- A closure deferred. -/
theorem L.defer {x : Operand} {f : FuncId} {caps : List Value} {o : Oper} (ho : o = { dst := none, op := .defer { callee := .value x, args := #[], argTypes := #[] }, type := ty, pos, after, guard := none }) (hr : C.r = none) (hx : ev σ x = some (aR (.func (.func f) #[] caps.toArray)))
    (h : L P { C with ds := { target := .fn (.func f) caps.toArray, args := #[] } :: C.ds } n ops Q rest σ Ω) : L P C n ops Q (o :: rest) σ Ω := by
  subst ho
  intro a w hs ha
  refine wpListIn_plain rfl fun K hK => ⟨Ctx.about, ?_⟩
  have hrun : (({ dst := none, op := .defer { callee := .value x, args := #[], argTypes := #[] }, type := ty, pos, after, guard := none } : Oper).semAt C.F.round a.eval).run P w = .ok (.defer { target := .fn (.func f) caps.toArray, args := #[] }) w := by
    show (Oper.semAt C.r a.eval _).run P w = _
    rw [hr, Oper.semAt_none]
    simp [execOp, resolve, Deferred.ofValue, ha.raw hx]
  rw [hrun, Oper.uponIn_defer]
  refine hK _ _ (h _ _ ⟨hs.os, hs.tape, hs.output, hs.size, hs.kept, hs.nodup, hs.lt, hs.mine, hs.apart, hs.xlt, hs.obs⟩ ⟨?_, ?_, ?_⟩)
  · simpa [Act.put] using ha.size
  · simp [Act.put, ha.defers]
  · intro d x hd; simpa [Act.put] using ha.get d x hd

/-- At the door, with one deferred closure. -/
theorem door {fn : Func} {X M : List Nat} {w0 : World} {f : FuncId} {caps : List Value} {ss : List SV} {Ω1 : List Ob} {u u' : FrameMode} {R1 : List Ob → Prop} {R : AV → List Ob → Prop} {E : Value → Prop} (hu : u ≠ .run) (hset : settle u' = .returning) (hf : enters P f = true)
    (hcap : ∀ Y w, All2 (Rsv Y w) caps ss) (hF : FcD P f ss Ω1 u u' R1) (hΩ : Ω = A ++ Ω1 ++ B)
    (hres : ∀ Ω', R1 Ω' → ∃ x Ωr, R x Ωr ∧ (∀ w, St ⟨X, M, w0, none, []⟩ (A ++ Ω' ++ B) w → St ⟨X, M, w0, none, []⟩ Ωr w ∧ Step (owns (A ++ Ω' ++ B) ++ X) (owns Ωr ++ X) w w) ∧
      ∀ a w, St ⟨X, M, w0, none, []⟩ (A ++ Ω' ++ B) w → Has n [{ target := .fn (.func f) caps.toArray, args := #[] }] (owns (A ++ Ω' ++ B) ++ X) w a σ → ∃ v, (results fn a.tmps).run P w = .ok v w ∧ Rav (owns (A ++ Ω' ++ B) ++ X) w v x)
    {a : Act} {w : World} (hs : St ⟨X, M, w0, none, [{ target := .fn (.func f) caps.toArray, args := #[] }]⟩ Ω w) (ha : Has n [{ target := .fn (.func f) caps.toArray, args := #[] }] (owns Ω ++ X) w a σ) :
    LeavesInM Fence.wide 0 P fn a.tmps (fun e w' => (∃ v x Ω', e = .returned v ∧ R x Ω' ∧ St ⟨X, M, w0, none, []⟩ Ω' w' ∧ Rav (owns Ω' ++ X) w' v x) ∨ ∃ u, e = .panicked (pan u) ∧ E u ∧ St ⟨X, M, w0, none, []⟩ [] w') a.defers u w := by
  subst hΩ
  have hs0 : St ⟨X, M, w0, none, []⟩ (A ++ Ω1 ++ B) w := ⟨hs.os, hs.tape, hs.output, hs.size, hs.kept, hs.nodup, hs.lt, hs.mine, hs.apart, hs.xlt, hs.obs⟩
  rw [ha.defers]
  refine ⟨hu, .inr ⟨(fun h => by cases h), .func f, caps.toArray, f, caps.toArray, rfl, ?_, fun _ _ => trivial, ?_⟩⟩
  · simp [invoke, run_callFunc hf]
  · obtain ⟨hcs, hX⟩ := frame_in hs0
    refine (hF (owns A ++ owns B ++ X) w caps hcs (hcap _ _)).mono ?_
    rintro e m w' ⟨v, Ω', rfl, rfl, hR, hs'⟩
    obtain ⟨hgo, hback⟩ := frame_out hs0 hs'
    obtain ⟨x, Ωr, hRx, hconv, hr⟩ := hres Ω' hR
    obtain ⟨v2, h1, h2⟩ := hr a w' hgo.1 (ha.step hgo.2)
    obtain ⟨h3, h4⟩ := hconv w' hgo.1
    show LeavesInM Fence.wide 0 P fn a.tmps _ [] (settle m) w'
    rw [hset]
    exact ⟨v2, h1, .inl ⟨v2, x, Ωr, rfl, hRx, h3, h2.step h4⟩⟩
/-- A return at the door. -/
theorem G.retR {fn : Func} {X M : List Nat} {w0 : World} {f : FuncId} {caps : List Value} {ss : List SV} {R1 : List Ob → Prop} {R : AV → List Ob → Prop} {E : Value → Prop} (A Ω1 B : List Ob) (hf : enters P f = true)
    (hcap : ∀ Y w, All2 (Rsv Y w) caps ss) (hF : FcD P f ss Ω1 .returning .returning R1) (hΩ : Ω = A ++ Ω1 ++ B)
    (hres : ∀ Ω', R1 Ω' → ∃ x Ωr, R x Ωr ∧ (∀ w, St ⟨X, M, w0, none, []⟩ (A ++ Ω' ++ B) w → St ⟨X, M, w0, none, []⟩ Ωr w ∧ Step (owns (A ++ Ω' ++ B) ++ X) (owns Ωr ++ X) w w) ∧
      ∀ a w, St ⟨X, M, w0, none, []⟩ (A ++ Ω' ++ B) w → Has n [{ target := .fn (.func f) caps.toArray, args := #[] }] (owns (A ++ Ω' ++ B) ++ X) w a σ → ∃ v, (results fn a.tmps).run P w = .ok v w ∧ Rav (owns (A ++ Ω' ++ B) ++ X) w v x) :
    G ⟨X, M, w0, none, [{ target := .fn (.func f) caps.toArray, args := #[] }]⟩ n (PostP P fn ⟨X, M, w0, none, []⟩ R E .ret) σ Ω := fun _ _ hs ha => door (E := E) (by intro h; cases h) rfl hf hcap hF hΩ hres hs ha
/-- A panic that the deferred closure catches. -/
theorem G.panR {fn : Func} {X M : List Nat} {w0 : World} {f : FuncId} {caps : List Value} {ss : List SV} {R1 : List Ob → Prop} {R : AV → List Ob → Prop} {E : Value → Prop} {u : Value} (A Ω1 B : List Ob) (hf : enters P f = true)
    (hcap : ∀ Y w, All2 (Rsv Y w) caps ss) (hF : FcD P f ss Ω1 (.panicking (Go.Q.pan u)) (.panicking [{ v := u, recovered := true }]) R1) (hΩ : Ω = A ++ Ω1 ++ B)
    (hres : ∀ Ω', R1 Ω' → ∃ x Ωr, R x Ωr ∧ (∀ w, St ⟨X, M, w0, none, []⟩ (A ++ Ω' ++ B) w → St ⟨X, M, w0, none, []⟩ Ωr w ∧ Step (owns (A ++ Ω' ++ B) ++ X) (owns Ωr ++ X) w w) ∧
      ∀ a w, St ⟨X, M, w0, none, []⟩ (A ++ Ω' ++ B) w → Has n [{ target := .fn (.func f) caps.toArray, args := #[] }] (owns (A ++ Ω' ++ B) ++ X) w a σ → ∃ v, (results fn a.tmps).run P w = .ok v w ∧ Rav (owns (A ++ Ω' ++ B) ++ X) w v x) :
    G ⟨X, M, w0, none, [{ target := .fn (.func f) caps.toArray, args := #[] }]⟩ n (PostP P fn ⟨X, M, w0, none, []⟩ R E (.panic (Go.Q.pan u))) σ Ω := fun _ _ hs ha => door (E := E) (by intro h; cases h) rfl hf hcap hF hΩ hres hs ha

theorem cell_load1 {t : Nat} {T T' : TypeId} {b i : Nat} {y : CV} (ht : σ.lookup t = some (aP b 0)) (h1 : one P T = true) (hi : Ω[i]? = some (.blk b T' [y])) {ds : List Deferred} {a : Act} {w : World} (hs : St C Ω w) (ha : Has n ds (owns Ω ++ C.X) w a σ) :
    ∃ u : Value, a.tmps[t]? = some (.pointer (some ⟨b, 0, none⟩)) ∧ (loadVar T ⟨b, 0, none⟩).run P w = .ok u w ∧ Rcv (owns Ω ++ C.X) w u y := by
  obtain ⟨v, hv, hr'⟩ := ha.get t _ ht
  have hv' : v = .pointer (some ⟨b, 0, none⟩) := hr'
  subst hv'
  obtain ⟨us, hb, hc⟩ := hs.blk hi
  obtain ⟨u, hu, hr⟩ := hc.get (i := 0) (b := y) rfl
  have hcell : w.cell? ⟨b, 0, none⟩ = some u := by rw [cell_of_row w b 0 us.toArray T' (0, 0) hb]; simpa using hu
  exact ⟨u, hv, by simp [loadVar, run_isAgg_one h1, hcell], hr⟩
theorem resCCC {fn : Func} {t u s : Nat} {T T' U U' S S' : TypeId} {b b2 b3 i j k sz : Nat} {cs : List CV} {y z : CV} {ds : List Deferred} (hr : fn.results = #[.cell t T, .cell u U, .cell s S]) (ht : σ.lookup t = some (aP b 0)) (h1 : agg P T = true) (hsz : (P.info? T).map (·.size) = some sz) (hi : Ω[i]? = some (.blk b T' cs)) (hl : Nat.beq cs.length sz = true)
    (hu : σ.lookup u = some (aP b2 0)) (h2 : one P U = true) (hj : Ω[j]? = some (.blk b2 U' [y])) (hv : σ.lookup s = some (aP b3 0)) (h3 : one P S = true) (hk : Ω[k]? = some (.blk b3 S' [z])) :
    ∀ a w, St C Ω w → Has n ds (owns Ω ++ C.X) w a σ → ∃ v, (results fn a.tmps).run P w = .ok v w ∧ Rav (owns Ω ++ C.X) w v (.t [.g cs, .c y, .c z]) := by
  intro a w hs ha
  have ha' : Has n ({ C with ds := ds } : Ctx).ds (owns Ω ++ ({ C with ds := ds } : Ctx).X) w a σ := ha
  obtain ⟨us, e2, e3, e4⟩ := cell_loads (C := { C with ds := ds }) ht h1 hsz hi hl ⟨hs.os, hs.tape, hs.output, hs.size, hs.kept, hs.nodup, hs.lt, hs.mine, hs.apart, hs.xlt, hs.obs⟩ ha'
  obtain ⟨v2, f2, f3, f4⟩ := cell_load1 hu h2 hj hs ha
  obtain ⟨v3, g2, g3, g4⟩ := cell_load1 hv h3 hk hs ha
  exact ⟨.tuple #[.agg us.toArray, v2, v3], by simp [results, hr, e2, f2, g2, asAddr, e3, f3, g3], [.agg us.toArray, v2, v3], rfl, ⟨us, rfl, e4⟩, f4, g4, trivial⟩

/-- What an interface holds, asked for: it is so. -/
theorem L.tas {t T : TypeId} {fs : Array Field} {x : Operand} {k k' : IntKind} {a b : Int} (hu : P.underlying T = some (.struct fs)) (hx : ev σ x = some (aR (.iface T (.agg #[.int k a, .int k' b])))) (hdn : Nat.blt d n = true)
    (h : L P C n ops Q rest ((d, .t [.g [.d (.i k a), .d (.i k' b)], .c (.d (.b true))]) :: σ) Ω) : L P C n ops Q ({ dst := some d, op := .typeAssert x t T true, type := ty, pos, after, guard := none } :: rest) σ Ω :=
  L.pure (x := .t [.g [.d (.i k a), .d (.i k' b)], .c (.d (.b true))]) rfl rfl hdn (fun c w hs ha => ⟨.tuple #[.agg #[.int k a, .int k' b], .bool true], by
    simp [execOp, Instr.typeAssert, run_underlying hu, ha.raw hx], [.agg #[.int k a, .int k' b], .bool true], rfl, ⟨[.int k a, .int k' b], rfl, Rc.i _ _, Rc.i _ _, trivial⟩, Rc.b _, trivial⟩) h
/-- It holds nothing. -/
theorem L.tasN {t T : TypeId} {fs : Array Field} {x : Operand} {zs : Array Value} {zc : List CV} (hu : P.underlying T = some (.struct fs)) (hz : (P.info? T).bind (·.zero) = some (.agg zs)) (hk : zs.toList.all Value.oneCell' = true) (hzc : zs.toList.map kCV = zc) (hx : ev σ x = some (aR .nilIface)) (hdn : Nat.blt d n = true)
    (h : L P C n ops Q rest ((d, .t [.g zc, .c (.d (.b false))]) :: σ) Ω) : L P C n ops Q ({ dst := some d, op := .typeAssert x t T true, type := ty, pos, after, guard := none } :: rest) σ Ω := by
  obtain ⟨ti, hti, hz⟩ := Option.bind_eq_some_iff.1 hz
  refine L.pure (x := .t [.g zc, .c (.d (.b false))]) rfl rfl hdn (fun c w hs ha => ⟨.tuple #[.agg zs, .bool false], ?_, [.agg zs, .bool false], rfl, ⟨zs.toList, by simp, ?_⟩, Rc.b _, trivial⟩) h
  · simp [execOp, Instr.typeAssert, run_underlying hu, ha.raw hx, zeroValue, typeInfo, hti, hz]
  · subst hzc
    clear hz
    generalize zs.toList = l at hk
    induction l with
    | nil => trivial
    | cons v l ih =>
      simp only [List.all_cons, Bool.and_eq_true] at hk
      exact ⟨kCV_ok hk.1, ih hk.2⟩
theorem L.neNI {t u : TypeId} {x : Operand} (hu : P.underlying t = some (.interface (P.methodsAt t))) (hx : ev σ x = some (aR .nilIface)) (hdn : Nat.blt d n = true)
    (h : L P C n ops Q rest ((d, aB false) :: σ) Ω) : L P C n ops Q ({ dst := some d, op := .binOp .neq t x (.const .nilIface) u, type := ty, pos, after, guard := none } :: rest) σ Ω :=
  L.pure rfl rfl hdn (fun a w hs ha => ⟨.bool false, by
    have e0 : a.eval (.const .nilIface) = .nilIface := rfl
    have := run_neq_nil_nil (P := P) w t hu
    simp [execOp, ha.raw hx, e0, eqGuard, this], rB⟩) h
end
end Go.Q
