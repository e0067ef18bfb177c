/- A part of the proof: A1. -/
import Derived.Tactics2
import Derived.Below
import Derived.Orders
import Derived.Laws.AppendOwn
import Derived.Laws.OwnMore
set_option linter.unusedSimpArgs false
set_option linter.unusedVariables false
namespace Go.Ag
open Go

/-- Abstract values: exact values; read-only slices and what lies behind read-only addresses, by their content; slices that are owned, by block. -/
inductive AV where
  | v (x : Value)
  | ro (xs : List (List AV))
  | elt (cs : List AV)
  | sl (b len sz : Nat) (e : TypeId)
  | win (b off len sz : Nat)
  | at (b i j sz : Nat)
  | mt
  | agg (cs : List AV)
  | tup (cs : List AV)

def AV.one : AV → Bool
  | .v x => x.oneCell'
  | .agg _ | .tup _ => false
  | _ => true

def AV.cells : AV → List AV
  | .agg cs => cs
  | x => [x]

inductive AObj where
  | st (cs : List AV)
  | rows (e : TypeId) (sz : Nat) (xs : List (List AV))

abbrev H := Nat → Option AObj
def H.upd (σ : H) (b : Nat) (o : AObj) : H := fun c => if c = b then some o else σ c
def H.del (σ : H) (b : Nat) : H := fun c => if c = b then none else σ c
def H.none : H := fun _ => Option.none
def dom (σ : H) (b : Nat) : Prop := (σ b).isSome = true

/-- Value x is abstractly c, in world w, D being the blocks that may be written. -/
inductive VR (w : World) (D : Nat → Prop) : AV → Value → Prop
  | v (x : Value) : VR w D (.v x) x
  | ro (xs : List (List AV)) (a : Option Addr) (cap sz : Nat) (vals : Nat → Nat → Value)
      (hsz : ∀ (i : Nat) (x : List AV), xs[i]? = some x → x.length = sz ∧ ∀ c ∈ x, c.one = true)
      (hm : xs ≠ [] → ∃ b o, a = some ⟨b, o, Option.none⟩ ∧ ¬ D b ∧ b < w.heap.size ∧ ∀ (i : Nat) (x : List AV) (j : Nat), xs[i]? = some x → j < x.length → w.cell? ⟨b, o + (i * sz + j), Option.none⟩ = some (vals i j))
      (hv : ∀ (i : Nat) (x : List AV) (j : Nat) (c : AV), xs[i]? = some x → x[j]? = some c → VR w D c (vals i j))
      (hlen : xs.length ≤ maxLen) (hcap : xs.length ≤ cap) :
      VR w D (.ro xs) (.slice a xs.length cap)
  | elt (cs : List AV) (b o : Nat) (vals : Nat → Value) (hD : ¬ D b) (hb : b < w.heap.size) (hone : ∀ c ∈ cs, c.one = true)
      (hm : ∀ j, j < cs.length → w.cell? ⟨b, o + j, Option.none⟩ = some (vals j))
      (hv : ∀ (j : Nat) (c : AV), cs[j]? = some c → VR w D c (vals j)) :
      VR w D (.elt cs) (.pointer (some ⟨b, o, Option.none⟩))
  | sl (b len sz : Nat) (e : TypeId) (cap : Nat) (cur : Array Value) (hb : w.heap[b]? = some (.cells cur e (0, 0))) (hc : cur.size = cap * sz)
      (hl : len ≤ cap) (hcm : cap ≤ maxLen) : VR w D (.sl b len sz e) (.slice (some ⟨b, 0, Option.none⟩) len cap)
  | win (b off len sz cap : Nat) (a : Option Addr) (hl : len ≤ cap) (ha : 0 < len → a = some ⟨b, off * sz, Option.none⟩) : VR w D (.win b off len sz) (.slice a len cap)
  | at (b i j sz : Nat) : VR w D (.at b i j sz) (.pointer (some ⟨b, i * sz + j, Option.none⟩))
  | mt (a : Option Addr) : VR w D .mt (.slice a 0 0)
  | agg (cs : List AV) (vs : Array Value) (hl : cs.length = vs.size) (hone : ∀ c ∈ cs, c.one = true)
      (h : ∀ (i : Nat) (c : AV) (x : Value), cs[i]? = some c → vs[i]? = some x → VR w D c x) : VR w D (.agg cs) (.agg vs)
  | tup (cs : List AV) (vs : Array Value) (hl : cs.length = vs.size)
      (h : ∀ (i : Nat) (c : AV) (x : Value), cs[i]? = some c → vs[i]? = some x → VR w D c x) : VR w D (.tup cs) (.tuple vs)

/-- From w to w': blocks outside D are as they were, the others keep their make. -/
structure Le (D : Nat → Prop) (w w' : World) : Prop where
  os : w'.os = w.os
  tape : w'.tape = w.tape
  output : w'.output = w.output
  size : w.heap.size ≤ w'.heap.size
  keep : ∀ b, b < w.heap.size → ¬ D b → w'.heap[b]? = w.heap[b]?
  make : ∀ (b : Nat) (cur : Array Value) (e : TypeId) (fr : Nat × Nat), w.heap[b]? = some (Obj.cells cur e fr) → ∃ cur' : Array Value, w'.heap[b]? = some (Obj.cells cur' e fr) ∧ cur'.size = cur.size

def DomOk (w : World) (D D' : Nat → Prop) : Prop := ∀ b, b < w.heap.size → D' b → D b

theorem Le.refl (D : Nat → Prop) (w : World) : Le D w w := ⟨rfl, rfl, rfl, Nat.le_refl _, fun _ _ _ => rfl, fun _ cur _ _ h => ⟨cur, h, rfl⟩⟩
theorem DomOk.refl (w : World) (D : Nat → Prop) : DomOk w D D := fun _ _ h => h

theorem Le.trans {D D' : Nat → Prop} {w w' w'' : World} (h : Le D w w') (h' : Le D' w' w'') (hd : DomOk w D D') : Le D w w'' where
  os := h'.os.trans h.os
  tape := h'.tape.trans h.tape
  output := h'.output.trans h.output
  size := Nat.le_trans h.size h'.size
  keep b hb hD := by
    rw [h'.keep b (Nat.lt_of_lt_of_le hb h.size) (fun hc => hD (hd b hb hc)), h.keep b hb hD]
  make b cur e fr hc := by
    obtain ⟨c1, h1, e1⟩ := h.make b cur e fr hc
    obtain ⟨c2, h2, e2⟩ := h'.make b c1 e fr h1
    exact ⟨c2, h2, e2.trans e1⟩
theorem DomOk.trans {D D' D'' : Nat → Prop} {w w' : World} (h : DomOk w D D') (h' : DomOk w' D' D'') (hs : w.heap.size ≤ w'.heap.size) : DomOk w D D'' :=
  fun b hb hd => h b hb (h' b (Nat.lt_of_lt_of_le hb hs) hd)

theorem block_lt {w : World} {a : Addr} {v : Value} (h : w.cell? a = some v) : a.block < w.heap.size := World.block_lt_of_cell? w a h

theorem Le.cell {D : Nat → Prop} {w w' : World} (h : Le D w w') {a : Addr} {v : Value} (hc : w.cell? a = some v) (hD : ¬ D a.block) : w'.cell? a = some v := by
  rw [← hc]; exact World.cell?_of_block (h.keep _ (block_lt hc) hD)

theorem VR.mono {D D' : Nat → Prop} {w w' : World} (hle : Le D w w') (hd : DomOk w D D') {c : AV} {x : Value} (h : VR w D c x) : VR w' D' c x := by
  induction h with
  | v x => exact .v x
  | ro xs a cap sz vals hsz hm hv hlen hcap ih =>
    refine .ro xs a cap sz vals hsz ?_ ih hlen hcap
    intro hne
    obtain ⟨b, o, ha, hD, hb, hc⟩ := hm hne
    exact ⟨b, o, ha, fun h => hD (hd b hb h), Nat.lt_of_lt_of_le hb hle.size, fun i x j hx hj => hle.cell (hc i x j hx hj) hD⟩
  | elt cs b o vals hD hb hone hm hv ih =>
    exact .elt cs b o vals (fun h => hD (hd b hb h)) (Nat.lt_of_lt_of_le hb hle.size) hone (fun j hj => hle.cell (hm j hj) hD) ih
  | sl b len sz e cap cur hb hc hl hcm =>
    obtain ⟨c1, h1, e1⟩ := hle.make _ _ _ _ hb
    exact .sl b len sz e cap c1 h1 (by rw [e1]; exact hc) hl hcm
  | win b off len sz cap a hl ha => exact .win _ _ _ _ _ _ hl ha
  | «at» b i j sz => exact .at ..
  | mt a => exact .mt a
  | agg cs vs hl hone h ih => exact .agg cs vs hl hone ih
  | tup cs vs hl h ih => exact .tup cs vs hl ih

/-- What an owned block holds. -/
inductive OR (w : World) (D : Nat → Prop) : AObj → Array Value → TypeId → Prop
  | st (cs : List AV) (cur : Array Value) (e : TypeId) (hl : cs.length ≤ cur.size) (hone : ∀ c ∈ cs, c.one = true)
      (h : ∀ (i : Nat) (c : AV) (x : Value), cs[i]? = some c → cur[i]? = some x → VR w D c x) : OR w D (.st cs) cur e
  | rows (e : TypeId) (sz : Nat) (xs : List (List AV)) (cur : Array Value) (hl : xs.length * sz ≤ cur.size) (hlen : xs.length ≤ maxLen)
      (hone : ∀ (i : Nat) (r : List AV), xs[i]? = some r → r.length = sz ∧ ∀ c ∈ r, c.one = true)
      (h : ∀ (i : Nat) (r : List AV) (j : Nat) (c : AV) (x : Value), xs[i]? = some r → r[j]? = some c → cur[i * sz + j]? = some x → VR w D c x) : OR w D (.rows e sz xs) cur e

theorem OR.mono {D D' : Nat → Prop} {w w' : World} (hle : Le D w w') (hd : DomOk w D D') {o : AObj} {cur : Array Value} {e : TypeId} (h : OR w D o cur e) : OR w' D' o cur e := by
  cases h with
  | st cs _ _ hl hone h => exact .st cs _ _ hl hone (fun i c x h1 h2 => (h i c x h1 h2).mono hle hd)
  | rows e sz xs _ hl hlen hone h => exact .rows e sz xs _ hl hlen hone (fun i r j c x h1 h2 h3 => (h i r j c x h1 h2 h3).mono hle hd)

/-- The owned blocks are there. -/
def HR (σ : H) (w : World) : Prop := ∀ b o, σ b = some o → ∃ cur e, w.heap[b]? = some (Obj.cells cur e (0, 0)) ∧ OR w (dom σ) o cur e

abbrev T := List (Nat × AV)
def T.get : T → Nat → Option AV
  | [], _ => none
  | (j, x) :: r, i => if j = i then some x else T.get r i
/-- The frame. -/
def TR (t : T) (tmps : Array Value) (w : World) (D : Nat → Prop) : Prop := ∀ i x, t.get i = some x → ∃ v, tmps[i]? = some v ∧ VR w D x v

theorem TR.mono {D D' : Nat → Prop} {w w' : World} (hle : Le D w w') (hd : DomOk w D D') {t : T} {tmps : Array Value} (h : TR t tmps w D) : TR t tmps w' D' :=
  fun i x hx => let ⟨v, h1, h2⟩ := h i x hx; ⟨v, h1, h2.mono hle hd⟩

theorem lt_of_heap {w : World} {b : Nat} {o : Obj} (h : w.heap[b]? = some o) : b < w.heap.size := by
  rcases Nat.lt_or_ge b w.heap.size with h1 | h1
  · exact h1
  · rw [Array.getElem?_eq_none h1] at h; cases h

theorem HR.lt {σ : H} {w : World} (h : HR σ w) {b : Nat} {o : AObj} (hb : σ b = some o) : b < w.heap.size := by
  obtain ⟨cur, e, h1, _⟩ := h b o hb
  exact lt_of_heap h1
theorem HR.dom_lt {σ : H} {w : World} (h : HR σ w) {b : Nat} (hb : dom σ b) : b < w.heap.size := by
  unfold dom at hb
  cases h1 : σ b with
  | none => rw [h1] at hb; cases hb
  | some o => exact h.lt h1
/-- A block of no owner, the next one to be laid. -/
theorem HR.fresh {σ : H} {w : World} (h : HR σ w) : σ w.heap.size = none := by
  cases h1 : σ w.heap.size with
  | none => rfl
  | some o => exact absurd (h.lt h1) (Nat.lt_irrefl _)

theorem upd_same (σ : H) (b : Nat) (o : AObj) : σ.upd b o b = some o := by simp [H.upd]
theorem upd_ne (σ : H) {b c : Nat} (o : AObj) (h : c ≠ b) : σ.upd b o c = σ c := by simp [H.upd, h]
theorem dom_upd {σ : H} {b : Nat} {o : AObj} {c : Nat} : dom (σ.upd b o) c ↔ c = b ∨ dom σ c := by
  unfold dom H.upd
  split
  · simp [*]
  · simp [*]
theorem dom_of {σ : H} {b : Nat} {o : AObj} (h : σ b = some o) : dom σ b := by simp [dom, h]

theorem heap_alloc (w : World) (o : Obj) : (w.alloc o).heap[w.heap.size]? = some o := by
  show (w.heap.push o)[w.heap.size]? = some o
  rw [Array.getElem?_push, if_pos rfl]
theorem heap_alloc_lt (w : World) (o : Obj) {b : Nat} (h : b < w.heap.size) : (w.alloc o).heap[b]? = w.heap[b]? := by
  show (w.heap.push o)[b]? = _
  rw [Array.getElem?_push, if_neg (Nat.ne_of_lt h)]
theorem size_alloc_le (w : World) (o : Obj) : w.heap.size ≤ (w.alloc o).heap.size := by
  show w.heap.size ≤ (w.heap.push o).size
  rw [Array.size_push]; exact Nat.le_succ _
/-- A new block that nobody owns. -/
theorem Le.alloc (D : Nat → Prop) (w : World) (o : Obj) : Le D w (w.alloc o) := by
  refine ⟨rfl, rfl, rfl, size_alloc_le w o, fun b hb _ => heap_alloc_lt w o hb, fun b cur e fr h => ⟨cur, ?_, rfl⟩⟩
  rw [heap_alloc_lt w o (lt_of_heap h)]; exact h


theorem HR.kept {σ : H} {w w' : World} (h : HR σ w) (hle : Le (fun _ => False) w w') : HR σ w' := by
  intro b o hb
  obtain ⟨cur, e, h1, h2⟩ := h b o hb
  refine ⟨cur, e, ?_, h2.mono (D := dom σ) ⟨hle.os, hle.tape, hle.output, hle.size, fun b hb _ => hle.keep b hb (fun x => x), hle.make⟩ (DomOk.refl _ _)⟩
  rw [hle.keep b (lt_of_heap h1) (fun x => x)]; exact h1

theorem Le.of_false {D : Nat → Prop} {w w' : World} (hle : Le (fun _ => False) w w') : Le D w w' :=
  ⟨hle.os, hle.tape, hle.output, hle.size, fun b hb _ => hle.keep b hb (fun x => x), hle.make⟩

/-- A new block that is owned from now on. -/
theorem HR.alloc {σ : H} {w : World} (h : HR σ w) {o : AObj} {cur : Array Value} {e : TypeId} (ho : OR w (dom σ) o cur e) :
    HR (σ.upd w.heap.size o) (w.alloc (.cells cur e)) ∧ Le (dom σ) w (w.alloc (.cells cur e)) ∧ DomOk w (dom σ) (dom (σ.upd w.heap.size o)) := by
  have hle : Le (dom σ) w (w.alloc (.cells cur e)) := Le.alloc _ _ _
  have hd : DomOk w (dom σ) (dom (σ.upd w.heap.size o)) := by
    intro b hb h1
    rcases dom_upd.1 h1 with rfl | h1
    · exact absurd hb (Nat.lt_irrefl _)
    · exact h1
  refine ⟨?_, hle, hd⟩
  intro b o' hb
  by_cases hb' : b = w.heap.size
  · subst hb'
    rw [upd_same] at hb
    cases hb
    exact ⟨cur, e, heap_alloc _ _, ho.mono hle hd⟩
  · rw [upd_ne _ _ hb'] at hb
    obtain ⟨c1, e1, h1, h2⟩ := h b o' hb
    exact ⟨c1, e1, by rw [heap_alloc_lt _ _ (lt_of_heap h1)]; exact h1, h2.mono hle hd⟩
end Go.Ag
