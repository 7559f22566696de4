/- Abstract values and abstract objects over the kit's worlds: relations, and how they are kept from world to world. No program in sight. -/
import Derived.WalkKit
import Derived.OrdersIn
import Derived.OwnWalkIn
import Derived.Sort.LoopGhostIn
import Derived.RangeFuncLeaves
import Derived.RangeFuncNested
namespace Go.Q
open Go

/-- Pairwise related lists. -/
def All2 {α β : Type} (R : α → β → Prop) : List α → List β → Prop
  | [], [] => True
  | a :: as, b :: bs => R a b ∧ All2 R as bs
  | _, _ => False

theorem All2.mono {α β : Type} {R R' : α → β → Prop} (h : ∀ a b, R a b → R' a b) : ∀ {l : List α} {m : List β}, All2 R l m → All2 R' l m
  | [], [], _ => trivial
  | _ :: _, _ :: _, ⟨h1, h2⟩ => ⟨h _ _ h1, All2.mono h h2⟩
  | [], _ :: _, h2 => h2.elim
  | _ :: _, [], h2 => h2.elim

theorem All2.length {α β : Type} {R : α → β → Prop} : ∀ {l : List α} {m : List β}, All2 R l m → l.length = m.length
  | [], [], _ => rfl
  | _ :: _, _ :: _, ⟨_, h2⟩ => by simp [All2.length h2]
  | [], _ :: _, h2 => h2.elim
  | _ :: _, [], h2 => h2.elim

theorem All2.get {α β : Type} {R : α → β → Prop} : ∀ {l : List α} {m : List β}, All2 R l m → ∀ {i : Nat} {b : β}, m[i]? = some b → ∃ a, l[i]? = some a ∧ R a b
  | [], [], _, i, b, h => by simp at h
  | a :: as, b :: bs, ⟨h1, h2⟩, 0, c, h => by simp at h; subst h; exact ⟨a, rfl, h1⟩
  | a :: as, b :: bs, ⟨h1, h2⟩, i + 1, c, h => by
    obtain ⟨x, hx, hr⟩ := All2.get h2 (i := i) (by simpa using h)
    exact ⟨x, by simpa using hx, hr⟩
  | [], _ :: _, h2, _, _, _ => h2.elim
  | _ :: _, [], h2, _, _, _ => h2.elim

theorem All2.getl {α β : Type} {R : α → β → Prop} : ∀ {l : List α} {m : List β}, All2 R l m → ∀ {i : Nat} {a : α}, l[i]? = some a → ∃ b, m[i]? = some b ∧ R a b
  | [], [], _, i, b, h => by simp at h
  | a :: as, b :: bs, ⟨h1, h2⟩, 0, c, h => by simp at h; subst h; exact ⟨b, rfl, h1⟩
  | a :: as, b :: bs, ⟨h1, h2⟩, i + 1, c, h => by
    obtain ⟨x, hx, hr⟩ := All2.getl h2 (i := i) (by simpa using h)
    exact ⟨x, by simpa using hx, hr⟩
  | [], _ :: _, h2, _, _, _ => h2.elim
  | _ :: _, [], h2, _, _, _ => h2.elim

theorem All2.append {α β : Type} {R : α → β → Prop} : ∀ {l : List α} {m : List β} {l' : List α} {m' : List β}, All2 R l m → All2 R l' m' → All2 R (l ++ l') (m ++ m')
  | [], [], _, _, _, h => h
  | _ :: _, _ :: _, _, _, ⟨h1, h2⟩, h => ⟨h1, All2.append h2 h⟩
  | [], _ :: _, _, _, h2, _ => h2.elim
  | _ :: _, [], _, _, h2, _ => h2.elim

theorem All2.take {α β : Type} {R : α → β → Prop} : ∀ (n : Nat) {l : List α} {m : List β}, All2 R l m → All2 R (l.take n) (m.take n)
  | 0, _, _, _ => by simp [All2]
  | _ + 1, [], [], _ => by simp [All2]
  | n + 1, _ :: _, _ :: _, ⟨h1, h2⟩ => ⟨h1, All2.take n h2⟩
  | _ + 1, [], _ :: _, h2 => h2.elim
  | _ + 1, _ :: _, [], h2 => h2.elim

theorem All2.drop {α β : Type} {R : α → β → Prop} : ∀ (n : Nat) {l : List α} {m : List β}, All2 R l m → All2 R (l.drop n) (m.drop n)
  | 0, _, _, h => h
  | _ + 1, [], [], _ => by simp [All2]
  | n + 1, _ :: _, _ :: _, ⟨_, h2⟩ => All2.drop n h2
  | _ + 1, [], _ :: _, h2 => h2.elim
  | _ + 1, _ :: _, [], h2 => h2.elim

theorem All2.set {α β : Type} {R : α → β → Prop} {a : α} {b : β} (hab : R a b) : ∀ (n : Nat) {l : List α} {m : List β}, All2 R l m → All2 R (l.set n a) (m.set n b)
  | 0, [], [], _ => trivial
  | 0, _ :: _, _ :: _, ⟨_, h2⟩ => ⟨hab, h2⟩
  | _ + 1, [], [], _ => trivial
  | n + 1, _ :: _, _ :: _, ⟨h1, h2⟩ => ⟨h1, All2.set hab n h2⟩
  | 0, [], _ :: _, h2 => h2.elim
  | 0, _ :: _, [], h2 => h2.elim
  | _ + 1, [], _ :: _, h2 => h2.elim
  | _ + 1, _ :: _, [], h2 => h2.elim

theorem All2.of_get {α β : Type} {R : α → β → Prop} : ∀ {l : List α} {m : List β}, l.length = m.length → (∀ (i : Nat) (a : α) (b : β), l[i]? = some a → m[i]? = some b → R a b) → All2 R l m
  | [], [], _, _ => trivial
  | a :: as, b :: bs, hl, h => ⟨h 0 a b rfl rfl, All2.of_get (by simpa using hl) fun i x y hx hy => h (i + 1) x y (by simpa using hx) (by simpa using hy)⟩
  | [], _ :: _, hl, _ => by simp at hl
  | _ :: _, [], hl, _ => by simp at hl

theorem heapOld (w : World) (o : Obj) (i : Nat) (h : i < w.heap.size) : (w.alloc o).heap[i]? = w.heap[i]? := by
  show (w.heap.push o)[i]? = w.heap[i]?
  rw [Array.getElem?_push, if_neg (Nat.ne_of_lt h)]

/-- Data: what one cell leads to, as a tree. 'l sz es': a slice of elements of sz cells each. -/
inductive D where
  | i (k : IntKind) (n : Int)
  | b (x : Bool)
  | s (x : ByteArray)
  | l (sz : Nat) (es : List (List D))

/-- A value leads to data, by blocks that are none of X. -/
inductive Rc (X : List Nat) (w : World) : Value → D → Prop where
  | i (k : IntKind) (n : Int) : Rc X w (.int k n) (.i k n)
  | b (x : Bool) : Rc X w (.bool x) (.b x)
  | s (x : ByteArray) : Rc X w (.string x) (.s x)
  | nil (a : Option Addr) (c sz : Nat) : Rc X w (.slice a 0 c) (.l sz [])
  | l (b o n c sz : Nat) (es : List (List D)) (cs : Nat → Nat → Value) (hn : es.length = n) (hc : n ≤ c) (hm : n ≤ maxLen) (hb : b < w.heap.size) (hX : b ∉ X) (hs : ∀ e ∈ es, e.length = sz)
      (hcell : ∀ i j, i < n → j < sz → w.cell? ⟨b, o + i * sz + j, none⟩ = some (cs i j))
      (hrec : ∀ (i j : Nat) (e : List D) (d : D), es[i]? = some e → e[j]? = some d → Rc X w (cs i j) d) : Rc X w (.slice (some ⟨b, o, none⟩) n c) (.l sz es)

/-- From a world to a later one: what is none of X is as it was; what was none of X, and was there, is none of X'. -/
structure Step (X X' : List Nat) (w w' : World) : Prop where
  size : w.heap.size ≤ w'.heap.size
  same : ∀ r, r < w.heap.size → r ∉ X → w'.heap[r]? = w.heap[r]?
  away : ∀ r, r < w.heap.size → r ∉ X → r ∉ X'

theorem Step.refl (X : List Nat) (w : World) : Step X X w w := ⟨Nat.le_refl _, fun _ _ _ => rfl, fun _ _ h => h⟩

theorem Step.trans {X X' X'' : List Nat} {w w' w'' : World} (h : Step X X' w w') (k : Step X' X'' w' w'') : Step X X'' w w'' :=
  ⟨Nat.le_trans h.size k.size, fun r hr hX => (k.same r (Nat.lt_of_lt_of_le hr h.size) (h.away r hr hX)).trans (h.same r hr hX),
   fun r hr hX => k.away r (Nat.lt_of_lt_of_le hr h.size) (h.away r hr hX)⟩

theorem Rc.step {X X' : List Nat} {w w' : World} (s : Step X X' w w') {v : Value} {d : D} (h : Rc X w v d) : Rc X' w' v d := by
  induction h with
  | i k n => exact .i k n
  | b x => exact .b x
  | s x => exact .s x
  | nil a c sz => exact .nil a c sz
  | l b o n c sz es cs hn hc hm hb hX hs hcell hrec ih =>
    exact .l b o n c sz es cs hn hc hm (Nat.lt_of_lt_of_le hb s.size) (s.away b hb hX) hs
      (fun i j hi hj => by rw [World.cell?_of_block (w := w) (s.same b hb hX)]; exact hcell i j hi hj) ih

/-- Immutable cells at a place. -/
def Ri (X : List Nat) (w : World) (b o : Nat) (cs : List D) : Prop :=
  b < w.heap.size ∧ b ∉ X ∧ ∃ us : List Value, (∀ j u, us[j]? = some u → w.cell? ⟨b, o + j, none⟩ = some u) ∧ All2 (Rc X w) us cs

theorem Ri.step {X X' : List Nat} {w w' : World} (s : Step X X' w w') {b o : Nat} {cs : List D} (h : Ri X w b o cs) : Ri X' w' b o cs := by
  obtain ⟨hb, hX, us, hc, ha⟩ := h
  exact ⟨Nat.lt_of_lt_of_le hb s.size, s.away b hb hX, us, fun j u hu => by rw [World.cell?_of_block (w := w) (s.same b hb hX)]; exact hc j u hu, ha.mono fun _ _ => Rc.step s⟩

/-- One cell's value: data; a pointer into an own block; a pointer to immutable cells; just this value. -/
inductive CV where
  | d (x : D)
  | p (b o : Nat)
  | ip (cs : List D)
  | r (v : Value)
  | y (l : Nat) (ds : List (Value × D))

def Rcv (X : List Nat) (w : World) (v : Value) : CV → Prop
  | .d x => Rc X w v x
  | .p b o => v = .pointer (some ⟨b, o, none⟩)
  | .ip cs => ∃ b o, v = .pointer (some ⟨b, o, none⟩) ∧ Ri X w b o cs
  | .r u => v = u ∧ u.oneCell' = true
  | .y l ds => v = .func (.yield l) #[] #[] ∧ ∀ p ∈ ds, Rc X w p.1 p.2

theorem Rcv.step {X X' : List Nat} {w w' : World} (s : Step X X' w w') {v : Value} : ∀ {c : CV}, Rcv X w v c → Rcv X' w' v c
  | .d _, h => Rc.step s h
  | .p _ _, h => h
  | .ip _, ⟨b, o, h1, h2⟩ => ⟨b, o, h1, h2.step s⟩
  | .r _, h => h
  | .y _ _, ⟨h1, h2⟩ => ⟨h1, fun p hp => Rc.step s (h2 p hp)⟩

theorem Rc.one {X : List Nat} {w : World} {v : Value} {d : D} (h : Rc X w v d) : v.oneCell' = true := by cases h <;> rfl
theorem Rcv.one {X : List Nat} {w : World} {v : Value} : ∀ {c : CV}, Rcv X w v c → v.oneCell' = true
  | .d _, h => Rc.one h
  | .p _ _, h => by have h' : v = _ := h; subst h'; rfl
  | .ip _, ⟨b, o, h1, _⟩ => by subst h1; rfl
  | .r _, ⟨h1, h2⟩ => by subst h1; exact h2
  | .y _ _, ⟨h1, _⟩ => by subst h1; rfl

theorem cells_one {v : Value} (h : v.oneCell' = true) : v.cells = #[v] := by cases v <;> first | rfl | (simp [Value.oneCell'] at h)

/-- A cell's value, or a struct's cells. -/
inductive SV where
  | c (x : CV)
  | g (xs : List CV)

def Rsv (X : List Nat) (w : World) (v : Value) : SV → Prop
  | .c x => Rcv X w v x
  | .g xs => ∃ us : List Value, v = .agg us.toArray ∧ All2 (Rcv X w) us xs

theorem Rsv.step {X X' : List Nat} {w w' : World} (s : Step X X' w w') {v : Value} : ∀ {c : SV}, Rsv X w v c → Rsv X' w' v c
  | .c _, h => Rcv.step s h
  | .g _, ⟨us, h1, h2⟩ => ⟨us, h1, h2.mono fun _ _ => Rcv.step s⟩

/-- The cells of a value of SV. -/
def SV.cells : SV → List CV
  | .c x => [x]
  | .g xs => xs

theorem Rsv.cells {X : List Nat} {w : World} {v : Value} : ∀ {c : SV}, Rsv X w v c → All2 (Rcv X w) v.cells.toList c.cells
  | .c x, h => by
    have h' : Rcv X w v x := h
    rw [cells_one h'.one]; exact ⟨h', trivial⟩
  | .g xs, ⟨us, h1, h2⟩ => by subst h1; simpa [Value.cells, SV.cells] using h2

inductive AV where
  | v (x : SV)
  | t (xs : List SV)

def Rav (X : List Nat) (w : World) (v : Value) : AV → Prop
  | .v x => Rsv X w v x
  | .t xs => ∃ us : List Value, v = .tuple us.toArray ∧ All2 (Rsv X w) us xs

theorem Rav.step {X X' : List Nat} {w w' : World} (s : Step X X' w w') {v : Value} : ∀ {c : AV}, Rav X w v c → Rav X' w' v c
  | .v _, h => Rsv.step s h
  | .t _, ⟨us, h1, h2⟩ => ⟨us, h1, h2.mono fun _ _ => Rsv.step s⟩

/-- What a call owns: a block of cells; a slice at the head of a row of its own. -/
inductive Ob where
  | blk (b : Nat) (T : TypeId) (cs : List CV)
  | row (v : Value) (T : TypeId) (sz : Nat) (es : List (List D))
  | raw (b : Nat) (x : Obj)

def Ob.own : Ob → List Nat
  | .blk b _ _ => [b]
  | .raw b _ => [b]
  | .row v _ _ _ => v.ownBlock.toList

def Rob (X : List Nat) (w : World) : Ob → Prop
  | .blk b T cs => ∃ us : List Value, w.heap[b]? = some (.cells us.toArray T (0, 0)) ∧ All2 (Rcv X w) us cs
  | .row v T sz es => ∃ us : List Value, w.ownsRow 0 T sz v es.length us ∧ All2 (Rc X w) us es.flatten ∧ ∀ e ∈ es, e.length = sz
  | .raw b x => w.heap[b]? = some x

def owns (Ω : List Ob) : List Nat := Ω.flatMap Ob.own

theorem owns_nil : owns [] = [] := rfl
theorem owns_cons (o : Ob) (Ω : List Ob) : owns (o :: Ω) = o.own ++ owns Ω := rfl
theorem owns_append (A B : List Ob) : owns (A ++ B) = owns A ++ owns B := by simp [owns]

theorem Rob.step {X X' : List Nat} {w w' : World} (s : Step X X' w w') {o : Ob} (hsame : ∀ b ∈ o.own, w'.heap[b]? = w.heap[b]?) (h : Rob X w o) : Rob X' w' o := by
  cases o with
  | raw b x =>
    show w'.heap[b]? = some x
    rw [hsame b (by simp [Ob.own])]; exact h
  | blk b T cs =>
    obtain ⟨us, h1, h2⟩ := h
    exact ⟨us, by rw [hsame b (by simp [Ob.own])]; exact h1, h2.mono fun _ _ => Rcv.step s⟩
  | row v T sz es =>
    obtain ⟨us, h1, h2, h3⟩ := h
    refine ⟨us, ⟨h1.1, ?_⟩, h2.mono fun _ _ => Rc.step s, h3⟩
    rcases h1.2 with hn | ⟨g, cap, cur, rfl, hb, hg, r⟩
    · exact .inl hn
    · exact .inr ⟨g, cap, cur, rfl, hb, by rw [hsame g (by simp [Ob.own, Value.ownBlock])]; exact hg, r⟩

/-- What a call is made in: blocks that are not its own to touch; blocks that came in and are; the world at its start. -/
structure Ctx where
  X : List Nat
  M : List Nat
  w0 : World
  r : Option Nat
  ds : List Deferred

/-- Where it runs: anywhere; in a round of a range over a function, or not. -/
def Ctx.F (C : Ctx) : Fence := { Fence.wide with round := C.r }

structure St (C : Ctx) (Ω : List Ob) (w : World) : Prop where
  os : w.os = C.w0.os
  tape : w.tape = C.w0.tape
  output : w.output = C.w0.output
  size : C.w0.heap.size ≤ w.heap.size
  kept : ∀ k, k < C.w0.heap.size → k ∉ C.M → w.heap[k]? = C.w0.heap[k]?
  nodup : (owns Ω).Nodup
  lt : ∀ b ∈ owns Ω, b < w.heap.size
  mine : ∀ b ∈ owns Ω, b ∈ C.M ∨ C.w0.heap.size ≤ b
  apart : ∀ b ∈ owns Ω, b ∉ C.X
  xlt : ∀ b ∈ C.X, b < C.w0.heap.size
  obs : ∀ o ∈ Ω, Rob (owns Ω ++ C.X) w o

/-- The world goes on: in some own blocks alone something has changed; there may be new ones. -/
theorem St.go {C : Ctx} {Ω Ω' : List Ob} {w w' : World} (h : St C Ω w) (Mod : List Nat) (hos : w'.os = w.os) (htape : w'.tape = w.tape) (hout : w'.output = w.output)
    (hsize : w.heap.size ≤ w'.heap.size) (hsame : ∀ r, r < w.heap.size → r ∉ Mod → w'.heap[r]? = w.heap[r]?) (hsub : ∀ r ∈ Mod, r ∈ owns Ω)
    (hnd : (owns Ω').Nodup) (hown : ∀ b ∈ owns Ω', b ∈ owns Ω ∨ (w.heap.size ≤ b ∧ b < w'.heap.size))
    (hobs : Step (owns Ω ++ C.X) (owns Ω' ++ C.X) w w' → ∀ o ∈ Ω', Rob (owns Ω' ++ C.X) w' o) :
    St C Ω' w' ∧ Step (owns Ω ++ C.X) (owns Ω' ++ C.X) w w' := by
  have hs : Step (owns Ω ++ C.X) (owns Ω' ++ C.X) w w' := by
    refine ⟨hsize, fun r hr hX => hsame r hr fun hm => hX (List.mem_append_left _ (hsub r hm)), fun r hr hX hX' => ?_⟩
    rcases List.mem_append.1 hX' with h1 | h1
    · rcases hown r h1 with h2 | h2
      · exact hX (List.mem_append_left _ h2)
      · omega
    · exact hX (List.mem_append_right _ h1)
  refine ⟨⟨hos.trans h.os, htape.trans h.tape, hout.trans h.output, Nat.le_trans h.size hsize, fun k hk hM => ?_, hnd, fun b hb => ?_, fun b hb => ?_, fun b hb => ?_, h.xlt, hobs hs⟩, hs⟩
  · rw [hsame k (Nat.lt_of_lt_of_le hk h.size) (fun hm => by
      rcases h.mine k (hsub k hm) with h1 | h1
      · exact hM h1
      · omega)]
    exact h.kept k hk hM
  · rcases hown b hb with h1 | h1
    · exact Nat.lt_of_lt_of_le (h.lt b h1) hsize
    · exact h1.2
  · rcases hown b hb with h1 | h1
    · exact h.mine b h1
    · exact .inr (Nat.le_trans h.size h1.1)
  · rcases hown b hb with h1 | h1
    · exact h.apart b h1
    · intro hx; have := h.xlt b hx; have := h.size; omega

/-- A draw: nothing changes. -/
theorem St.drew {C : Ctx} {Ω : List Ob} {w : World} (h : St C Ω w) : St C Ω w.drew ∧ Step (owns Ω ++ C.X) (owns Ω ++ C.X) w w.drew :=
  h.go [] rfl rfl rfl (Nat.le_refl _) (fun _ _ _ => rfl) (by simp) h.nodup (fun b hb => .inl hb) fun s o ho => Rob.step s (fun _ _ => rfl) (h.obs o ho)

/-- A new block of cells. -/
theorem St.alloc {C : Ctx} {Ω : List Ob} {w : World} (h : St C Ω w) (T : TypeId) (us : List Value) (cs : List CV) (hc : All2 (Rcv (owns Ω ++ C.X) w) us cs) :
    St C (.blk w.heap.size T cs :: Ω) (w.alloc (.cells us.toArray T)) ∧ Step (owns Ω ++ C.X) (owns (.blk w.heap.size T cs :: Ω) ++ C.X) w (w.alloc (.cells us.toArray T)) := by
  refine h.go [] rfl rfl rfl (by simp) (fun r hr _ => heapOld w _ r hr) (by simp) ?_ ?_ ?_
  · rw [owns_cons]
    exact List.nodup_append.2 ⟨by simp [Ob.own], h.nodup, fun a ha b hb => by
      have := h.lt b hb
      simp [Ob.own] at ha
      omega⟩
  · intro b hb
    rw [owns_cons] at hb
    rcases List.mem_append.1 hb with h1 | h1
    · right; simp [Ob.own] at h1; subst h1; simp
    · exact .inl h1
  · intro s o ho
    rcases List.mem_cons.1 ho with rfl | ho
    · exact ⟨us, heap_alloc_new w _, hc.mono fun _ _ => Rcv.step s⟩
    · exact Rob.step s (fun b hb => heapOld w _ b (h.lt b (List.mem_flatMap.2 ⟨o, ho, hb⟩))) (h.obs o ho)

/-- The world has grown by new blocks of which nothing is kept as own (data that stays as it is). -/
theorem St.more {C : Ctx} {Ω : List Ob} {w w' : World} (h : St C Ω w) (hg : w.grownBy w' none) : St C Ω w' ∧ Step (owns Ω ++ C.X) (owns Ω ++ C.X) w w' :=
  h.go [] hg.os hg.tape hg.output hg.size (fun r hr _ => hg.block r hr (by simp)) (by simp) h.nodup (fun b hb => .inl hb) fun s o ho =>
    Rob.step s (fun b hb => hg.block b (h.lt b (List.mem_flatMap.2 ⟨o, ho, hb⟩)) (by simp)) (h.obs o ho)

end Go.Q
