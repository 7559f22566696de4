/- From a reading of the arguments to abstract values, by the types' shapes. -/
import Derived.Test.YtimimkdgofiloaaGreatDoorQs
import Derived.ProofKit
import Derived.ChangeOld
import Derived.Below
import Derived.Carry
namespace Go.Q
open Go

/-- The shape of a cell. -/
inductive Sh where
  | i (k : IntKind)
  | b
  | s
  | l (es : List Sh)

mutual
def HasSh : Sh → D → Prop
  | .i k, d => ∃ n : Int, d = .i k n ∧ (Lit.int k n).wf = true
  | .b, d => ∃ x, d = .b x
  | .s, d => ∃ x : ByteArray, d = .s x ∧ x.size ≤ maxLen
  | .l es, d => ∃ els : List (List D), d = .l es.length els ∧ els.length ≤ maxLen ∧ ∀ e ∈ els, HasShs es e
def HasShs : List Sh → List D → Prop
  | [], ds => ds = []
  | h :: hs, ds => ∃ d r, ds = d :: r ∧ HasSh h d ∧ HasShs hs r
end

theorem HasShs.length : ∀ {hs : List Sh} {ds : List D}, HasShs hs ds → ds.length = hs.length
  | [], ds, h => by simp only [HasShs] at h; rw [h]; rfl
  | _ :: hs, ds, h => by
    simp only [HasShs] at h
    obtain ⟨d, r, rfl, _, h2⟩ := h
    simp [HasShs.length h2]
theorem HasShs.append : ∀ {a : List Sh} {x : List D} {b : List Sh} {y : List D}, HasShs a x → HasShs b y → HasShs (a ++ b) (x ++ y)
  | [], x, b, y, h, k => by simp only [HasShs] at h; subst h; exact k
  | _ :: hs, x, b, y, h, k => by
    simp only [HasShs] at h
    obtain ⟨d, r, rfl, h1, h2⟩ := h
    simp only [List.cons_append, HasShs]
    exact ⟨d, r ++ y, rfl, h1, HasShs.append h2 k⟩

def shFs (f : TypeId → Option (List Sh)) (P : Program) : List Field → Nat → Option (List Sh)
  | [], _ => some []
  | fd :: r, o => if fd.offset = o then (match f fd.type with
    | some a => if a.length = P.cellsOf fd.type then (match shFs f P r (o + a.length) with
      | some l => some (a ++ l)
      | none => none) else none
    | none => none) else none
def shOf (P : Program) : Nat → TypeId → Option (List Sh)
  | 0, _ => none
  | n + 1, t => match P.underlying t with
    | some (.int k) => some [.i k]
    | some .bool => some [.b]
    | some .string => some [.s]
    | some (.slice e) => (match shOf P n e with
      | some es => if es.length = P.cellsOf e ∧ 0 < es.length then some [.l es] else none
      | none => none)
    | some (.struct fs) => (match shFs (shOf P n) P fs.toList 0 with
      | some l => if l.length = P.cellsOf t then some l else none
      | none => none)
    | _ => none

section
variable {H : Type} {enc : TypeId × Value → H} {P : Program} {w : World} {base : Nat} {held : Bool}

theorem fields_shape {n : Nat} {cs : List Value} (ih : ∀ (t : TypeId) (sh : List Sh), shOf P n t = some sh → ∀ (fuel : Nat) (cs : List Value) (x : DataW H × List MemPlace), DataW.trod enc P w base (fun _ => true) held fuel t cs = some x → ∃ ds, All2 (Rc [] w) cs ds ∧ HasShs sh ds) :
    ∀ (r : List Field) (o : Nat) (l : List Sh), shFs (shOf P n) P r o = some l → (∀ f ∈ r, ∃ m x, DataW.trod enc P w base (fun _ => true) held m f.type ((cs.drop f.offset).take (P.cellsOf f.type)) = some x) → o + l.length = cs.length → ∃ ds, All2 (Rc [] w) (cs.drop o) ds ∧ HasShs l ds
  | [], o, l, h, _, hlen => by
    simp only [shFs, Option.some.injEq] at h
    subst h
    refine ⟨[], ?_, by simp [HasShs]⟩
    rw [List.drop_eq_nil_of_le (by simp at hlen; omega)]
    trivial
  | fd :: r, o, l, h, hf, hlen => by
    simp only [shFs] at h
    split at h
    · rename_i ho
      cases ha : shOf P n fd.type with
      | none => rw [ha] at h; cases h
      | some a =>
        rw [ha] at h
        simp only [] at h
        split at h
        · rename_i hal
          cases hl : shFs (shOf P n) P r (o + a.length) with
          | none => rw [hl] at h; cases h
          | some l' =>
            rw [hl] at h
            simp only [Option.some.injEq] at h
            subst h
            subst ho
            obtain ⟨m, x, hx⟩ := hf fd (by simp)
            obtain ⟨d1, h1, h2⟩ := ih fd.type a ha m _ x hx
            obtain ⟨d2, h3, h4⟩ := fields_shape ih r (fd.offset + a.length) l' hl (fun f hfm => hf f (by simp [hfm])) (by rw [List.length_append] at hlen; omega)
            refine ⟨d1 ++ d2, ?_, h2.append h4⟩
            have hsplit : cs.drop fd.offset = (cs.drop fd.offset).take (P.cellsOf fd.type) ++ cs.drop (fd.offset + a.length) := by
              rw [hal, ← List.drop_drop, List.take_append_drop]
            rw [hsplit]
            exact h1.append h3
        · cases h
    · cases h

theorem read_shape : ∀ (n : Nat) (t : TypeId) (sh : List Sh), shOf P n t = some sh → ∀ (fuel : Nat) (cs : List Value) (x : DataW H × List MemPlace), DataW.trod enc P w base (fun _ => true) held fuel t cs = some x → ∃ ds, All2 (Rc [] w) cs ds ∧ HasShs sh ds
  | 0, _, _, h, _, _, _, _ => by simp [shOf] at h
  | n + 1, t, sh, h, fuel, cs, x, hx => by
    simp only [shOf] at h
    split at h
    · rename_i k ht
      simp only [Option.some.injEq] at h
      subst h
      obtain ⟨m, rfl, _, hwf⟩ := DataW.trod_int ht hx
      exact ⟨[.i k m], ⟨Rc.i _ _, trivial⟩, by simp only [HasShs, HasSh]; exact ⟨_, _, rfl, ⟨m, rfl, hwf⟩, rfl⟩⟩
    · rename_i ht
      simp only [Option.some.injEq] at h
      subst h
      obtain ⟨b, rfl, _⟩ := DataW.trod_bool ht hx
      exact ⟨[.b b], ⟨Rc.b _, trivial⟩, by simp only [HasShs, HasSh]; exact ⟨_, _, rfl, ⟨b, rfl⟩, rfl⟩⟩
    · rename_i ht
      simp only [Option.some.injEq] at h
      subst h
      obtain ⟨s, rfl, _, hs⟩ := DataW.trod_string ht hx
      exact ⟨[.s s], ⟨Rc.s _, trivial⟩, by simp only [HasShs, HasSh]; exact ⟨_, _, rfl, ⟨s, rfl, hs⟩, rfl⟩⟩
    · rename_i e ht
      cases he : shOf P n e with
      | none => rw [he] at h; cases h
      | some es =>
        rw [he] at h
        simp only [] at h
        split at h
        · rename_i hes
          obtain ⟨hel, hpos⟩ := hes
          simp only [Option.some.injEq] at h
          subst h
          rcases DataW.trod_slice ht hx with ⟨rfl, _⟩ | ⟨a, len, cap, elems, rest, m, _, rfl, _, hb, hlc, hcm, hlen, hel2, _, _⟩
          · refine ⟨[.l es.length []], ⟨Rc.nil _ _ _, trivial⟩, ?_⟩
            simp only [HasShs, HasSh]
            exact ⟨_, _, rfl, ⟨[], rfl, Nat.zero_le _, by simp⟩, rfl⟩
          · have hall : ∀ i, ∃ p : List Value × List D, i < len → w.cells? base (a.add (i * P.cellsOf e)) (P.cellsOf e) = some p.1 ∧ All2 (Rc [] w) p.1 p.2 ∧ HasShs es p.2 := by
              intro i
              by_cases hi : i < len
              · have h1 := hel2 i hi
                have h2 : elems[i]? = some elems[i] := List.getElem?_eq_getElem (by omega)
                rw [h2, Option.bind_eq_some_iff] at h1
                obtain ⟨ci, h3, h4⟩ := h1
                obtain ⟨di, h5, h6⟩ := read_shape n e es he m ci _ h4
                exact ⟨(ci, di), fun _ => ⟨h3, h5, h6⟩⟩
              · exact ⟨([], []), fun hh => absurd hh hi⟩
            obtain ⟨F, hF⟩ := Classical.axiomOfChoice hall
            by_cases h0 : len = 0
            · subst h0
              refine ⟨[.l es.length []], ⟨Rc.nil _ _ _, trivial⟩, ?_⟩
              simp only [HasShs, HasSh]
              exact ⟨_, _, rfl, ⟨[], rfl, Nat.zero_le _, by simp⟩, rfl⟩
            · obtain ⟨b, o, spot⟩ := a
              obtain ⟨hc0, _, _⟩ := hF 0 (by omega)
              obtain ⟨_, hl0, hcell0⟩ := World.cells?_some hc0
              have hblk := World.cells?_block hc0 (by omega)
              have hspot : spot = none := by
                have h1 := hcell0 0 (by omega)
                have h2 : (F 0).1[0]? = some ((F 0).1[0]'(by omega)) := List.getElem?_eq_getElem (by omega)
                rw [h2] at h1
                simpa [Addr.add] using World.cell?_spot h1
              subst hspot
              refine ⟨[.l es.length ((List.range len).map fun i => (F i).2)], ⟨?_, trivial⟩, ?_⟩
              · refine Rc.l b o len cap es.length _ (fun i j => (F i).1.getD j undef) (by simp) hlc (by omega) (by simpa [Addr.add] using hblk) (by simp) ?_ ?_ ?_
                · intro e' he'
                  obtain ⟨i, hi, rfl⟩ := List.mem_map.1 he'
                  exact (hF i (List.mem_range.1 hi)).2.2.length
                · intro i j hi hj
                  obtain ⟨hci, _, _⟩ := hF i hi
                  obtain ⟨_, hli, hcelli⟩ := World.cells?_some hci
                  have h1 := hcelli j (by omega)
                  have h2 : (F i).1[j]? = some ((F i).1[j]'(by omega)) := List.getElem?_eq_getElem (by omega)
                  rw [Addr.add_lit, Addr.add_lit, ← hel] at h1
                  simp only [List.getD, h2, Option.getD_some]
                  rw [h1, h2]
                · intro i j e' d he' hd
                  rw [List.getElem?_map] at he'
                  rcases Nat.lt_or_ge i len with hi | hi
                  · rw [List.getElem?_range hi] at he'
                    simp only [Option.map_some, Option.some.injEq] at he'
                    subst he'
                    obtain ⟨u, hu, hr⟩ := (hF i hi).2.1.get hd
                    simp only [List.getD, hu, Option.getD_some]
                    exact hr
                  · rw [List.getElem?_eq_none (by simpa using hi)] at he'
                    cases he'
              · simp only [HasShs, HasSh]
                refine ⟨_, _, rfl, ⟨_, rfl, by simp; omega, fun e' he' => ?_⟩, rfl⟩
                obtain ⟨i, hi, rfl⟩ := List.mem_map.1 he'
                exact (hF i (List.mem_range.1 hi)).2.2
        · cases h
    · rename_i fs ht
      cases hl : shFs (shOf P n) P fs.toList 0 with
      | none => rw [hl] at h; cases h
      | some l =>
        rw [hl] at h
        simp only [] at h
        split at h
        · rename_i hll
          simp only [Option.some.injEq] at h
          subst h
          obtain ⟨xs, m, _, _, hcl, hxl, hxs⟩ := DataW.trod_struct ht hx
          have := fields_shape (cs := cs) (fun t sh hs => read_shape n t sh hs) fs.toList 0 l hl (fun f hf => by
            obtain ⟨i, hi⟩ := List.getElem?_of_mem hf
            have hi' : fs[i]? = some f := by simpa using hi
            have h1 := hxs i f hi'
            have hilt : i < fs.size := (Array.getElem?_eq_some_iff.1 hi').1
            exact ⟨m, xs[i]'(by omega), by rw [h1]; exact List.getElem?_eq_getElem (by omega)⟩) (by omega)
          simpa using this
        · cases h
    · cases h
end

/-- At a call's start. -/
theorem St.start (W : World) : St ⟨[], [], W, none, []⟩ [] W :=
  ⟨rfl, rfl, rfl, Nat.le_refl _, fun _ _ _ => rfl, by simp [owns], by simp [owns], by simp [owns], by simp [owns], by simp, by simp⟩

/-- A law: of data it returns true, and nothing that was there has turned. -/
theorem Fc.law {P : Program} {f : FuncId} {as : List SV} (hF : Fc P f as [] (fun r Ω => Ω = [] ∧ r = aB true)) {W : World} {args : List Value} (ha : All2 (Rsv [] W) args as) :
    Calls P f args.toArray W fun e W' => e = .returned (.bool true) ∧ RowKit.Below W.heap.size W W' := by
  refine (hF [] W args (St.start W) ha).mono ?_
  rintro e W' ⟨v, x, Ω', rfl, ⟨rfl, rfl⟩, hs, hv⟩
  have hv' : v = .bool true := Rc.bool_inv hv
  subst hv'
  exact ⟨rfl, hs.os, hs.tape, hs.output, hs.size, fun k hk => hs.kept k hk (by simp [owns])⟩
end Go.Q
