/- A part of the proof: A4. -/
import Derived.Test.YtlchnjgnfomiaaaA3
set_option linter.unusedSimpArgs false
set_option linter.unusedVariables false
namespace Go.Ag
open Go
section
variable {P : Program} {w : World} {D : Nat → Prop} {σ : H}

/-! ### Cells that are filled in -/
def afill (place : Nat → Option (Nat × Nat)) (cs : List AV) : List (Nat × AV) → Option (List AV)
  | [] => some cs
  | (i, y) :: r => match place i with
    | none => none
    | some (off, size) => if y.cells.length = size ∧ off + size ≤ cs.length then afill place (splice cs off y.cells) r else none

theorem foldl_set_size : ∀ (l : List (Value × Nat)) (off : Nat) (cs : Array Value), (l.foldl (fun cs (x : Value × Nat) => cs.setIfInBounds (off + x.2) x.1) cs).size = cs.size
  | [], _, _ => rfl
  | x :: l, off, cs => by rw [List.foldl_cons, foldl_set_size l off]; simp

theorem foldl_set_get : ∀ (l : List Value) (k off : Nat) (cs : Array Value), off + k + l.length ≤ cs.size → ∀ j : Nat,
    ((l.zipIdx k).foldl (fun cs (x : Value × Nat) => cs.setIfInBounds (off + x.2) x.1) cs)[j]? = if off + k ≤ j ∧ j < off + k + l.length then l[j - (off + k)]? else cs[j]?
  | [], k, off, cs, _, j => by simp; omega
  | x :: l, k, off, cs, h, j => by
    simp only [List.length_cons] at h
    rw [List.zipIdx_cons, List.foldl_cons, foldl_set_get l (k + 1) off _ (by simp; omega) j]
    by_cases h1 : off + (k + 1) ≤ j ∧ j < off + (k + 1) + l.length
    · rw [if_pos h1, if_pos (by simp; omega), show j - (off + k) = (j - (off + (k + 1))) + 1 by omega, List.getElem?_cons_succ]
    · rw [if_neg h1]
      by_cases h2 : j = off + k
      · subst h2
        rw [if_pos (by simp), Nat.sub_self, List.getElem?_cons_zero, Array.getElem?_setIfInBounds_self_of_lt (by omega)]
      · rw [if_neg (by simp; omega), Array.getElem?_setIfInBounds_ne (by simp; omega)]

/-- A list of abstract cells and an array of cells. -/
structure CR (w : World) (D : Nat → Prop) (cs : List AV) (vs : Array Value) : Prop where
  len : cs.length = vs.size
  one : ∀ c ∈ cs, c.one = true
  rel : ∀ (i : Nat) (c : AV) (x : Value), cs[i]? = some c → vs[i]? = some x → VR w D c x

theorem CR.agg {cs : List AV} {vs : Array Value} (h : CR w D cs vs) : VR w D (.agg cs) (.agg vs) := .agg cs vs h.len h.one h.rel

/-- A list of operands' values. -/
def PR (w : World) (D : Nat → Prop) (ps : List (Nat × AV)) (vs : List (Nat × Value)) : Prop := ps.length = vs.length ∧ ∀ (i : Nat) (p : Nat × AV) (v : Nat × Value), ps[i]? = some p → vs[i]? = some v → p.1 = v.1 ∧ VR w D p.2 v.2

theorem PR.cons {p : Nat × AV} {ps : List (Nat × AV)} {v : Nat × Value} {vs : List (Nat × Value)} (h : PR w D (p :: ps) (v :: vs)) : (p.1 = v.1 ∧ VR w D p.2 v.2) ∧ PR w D ps vs :=
  ⟨h.2 0 p v rfl rfl, by have := h.1; simpa using this, fun i a b ha hb => h.2 (i + 1) a b (by simpa using ha) (by simpa using hb)⟩

theorem fill_sound (place : Nat → Option (Nat × Nat)) : ∀ (ps : List (Nat × AV)) (vs : List (Nat × Value)) (cs cs' : List AV) (cur : Array Value),
    PR w D ps vs → CR w D cs cur → (∀ p ∈ ps, ∀ c ∈ p.2.cells, c.one = true) → afill place cs ps = some cs' → ∃ cur', Instr.fill place cur vs = some cur' ∧ CR w D cs' cur'
  | [], vs, cs, cs', cur, hp, hc, _, h => by
    have : vs = [] := by have := hp.1; simpa using this.symm
    subst this
    simp only [afill, Option.some.injEq] at h
    subst h
    exact ⟨cur, rfl, hc⟩
  | (i, y) :: ps, vs, cs, cs', cur, hp, hc, h1, h => by
    cases vs with
    | nil => have := hp.1; simp at this
    | cons v vs =>
      obtain ⟨k, u⟩ := v
      obtain ⟨⟨hik, hyu⟩, hp'⟩ := hp.cons
      simp only at hik hyu
      subst hik
      simp only [afill] at h
      split at h <;> try (cases h; done)
      rename_i off size hpl
      split at h <;> try (cases h; done)
      rename_i hle
      obtain ⟨hl, hv⟩ := hyu.cells (h1 _ List.mem_cons_self)
      have hs : u.cells.size = size := by omega
      have hoff : off + u.cells.toList.length ≤ cur.size := by have := hc.len; simp; omega
      refine Exists.elim (fill_sound place ps vs (splice cs off y.cells) cs' (u.cells.zipIdx.foldl (fun cs (x : Value × Nat) => cs.setIfInBounds (off + x.2) x.1) cur) hp' ?_ (fun p hp'' => h1 p (List.mem_cons_of_mem _ hp'')) h) (fun cur' h' => ⟨cur', ?_, h'.2⟩)
      · have hfold : u.cells.zipIdx.foldl (fun cs (x : Value × Nat) => cs.setIfInBounds (off + x.2) x.1) cur = (u.cells.toList.zipIdx 0).foldl (fun cs (x : Value × Nat) => cs.setIfInBounds (off + x.2) x.1) cur := by
          rw [← Array.foldl_toList, Array.toList_zipIdx]
        rw [hfold]
        refine ⟨?_, fun c hc' => ?_, fun j c x hj hx => ?_⟩
        · rw [splice_length (by omega), foldl_set_size]; exact hc.len
        · rcases splice_mem hc' with h' | h'
          · exact hc.one c h'
          · exact h1 _ List.mem_cons_self c h'
        · rw [splice_get (by omega)] at hj
          rw [foldl_set_get _ 0 off _ (by simpa using hoff)] at hx
          simp only [Nat.add_zero] at hx
          have hll : u.cells.toList.length = y.cells.length := by simp; omega
          rw [hll] at hx
          by_cases hin : off ≤ j ∧ j < off + y.cells.length
          · rw [if_pos hin] at hj hx
            exact hv _ _ _ hj (by simpa using hx)
          · rw [if_neg hin] at hj hx
            exact hc.rel _ _ _ hj hx
      · simp only [Instr.fill, hpl]
        rw [if_neg (by simp only [Bool.or_eq_true, decide_eq_true_eq]; have := hc.len; omega)]
        exact h'.1

/-- A type's zero cells. -/
def tzero (P : Program) (t : TypeId) : Option (List AV) :=
  match P.info? t with
  | some i => (match i.zero with
    | some z => if z.cells.toList.all Value.oneCell' then some (z.cells.toList.map .v) else none
    | none => none)
  | none => none
theorem tzero_sound {t : TypeId} {cs : List AV} (h : tzero P t = some cs) : ∃ z i, P.info? t = some i ∧ i.zero = some z ∧ (∀ w, (zeroValue t).run P w = .ok z w) ∧ CR w D cs z.cells := by
  unfold tzero at h
  split at h <;> try (cases h; done)
  rename_i i hi
  split at h <;> try (cases h; done)
  rename_i z hz
  split at h <;> try (cases h; done)
  rename_i hall
  cases h
  refine ⟨z, i, hi, hz, fun w => by simp [zeroValue, typeInfo, hi, hz], ⟨by simp, fun c hc => ?_, fun j c x hj hx => ?_⟩⟩
  · obtain ⟨y, hy, rfl⟩ := List.mem_map.1 hc
    exact List.all_eq_true.1 hall y hy
  · simp only [List.getElem?_map, Array.getElem?_toList, hx, Option.map_some, Option.some.injEq] at hj
    subst hj; exact .v _

/-- Where the parts of a struct or an array stand. -/
inductive TP where
  | st (l : List (Nat × Nat))
  | ar (n : Nat)
def TP.place : TP → Nat → Option (Nat × Nat)
  | .st l, i => l[i]?
  | .ar n, i => some (i * n, n)
def tplaces (P : Program) (t : TypeId) : Option TP :=
  match P.underlying t with
  | some (.struct fs) => (fs.toList.mapM (fun f => (P.info? f.type).map fun i => (f.offset, i.size))).map .st
  | some (.array _ e) => (P.info? e).map fun i => .ar i.size
  | _ => none

def abuild (P : Program) (t : TypeId) (ps : List (Nat × AV)) : Option AV :=
  match tplaces P t, tzero P t with
  | some pl, some z => if ps.all (fun p => p.2.cells.all AV.one) then (afill pl.place z ps).map .agg else none
  | _, _ => none

theorem abuild_sound {t : TypeId} {ps : List (Nat × AV)} {vs : Array (Nat × Value)} {y : AV} (h : abuild P t ps = some y) (hp : PR w D ps vs.toList) :
    ∃ u, (Instr.build t vs).run P w = .ok u w ∧ VR w D y u := by
  unfold abuild at h
  split at h <;> try (cases h; done)
  rename_i pl z hpl hz
  split at h <;> try (cases h; done)
  rename_i hall
  obtain ⟨cs', hcs, rfl⟩ := Option.map_eq_some_iff.1 h
  unfold tzero at hz
  split at hz <;> try (cases hz; done)
  rename_i i hi
  split at hz <;> try (cases hz; done)
  rename_i zv hzv
  split at hz <;> try (cases hz; done)
  rename_i hallz
  cases hz
  have hzc : CR w D (zv.cells.toList.map .v) zv.cells := by
    refine ⟨by simp, fun c hc => ?_, fun j c x hj hx => ?_⟩
    · obtain ⟨y, hy, rfl⟩ := List.mem_map.1 hc
      exact List.all_eq_true.1 hallz y hy
    · simp only [List.getElem?_map, Array.getElem?_toList, hx, Option.map_some, Option.some.injEq] at hj
      subst hj; exact .v _
  have hone : ∀ p ∈ ps, ∀ c ∈ p.2.cells, c.one = true := fun p hp c hc => List.all_eq_true.1 (List.all_eq_true.1 hall p hp) c hc
  obtain ⟨cur', hf, hc'⟩ := fill_sound pl.place ps vs.toList _ cs' zv.cells hp hzc hone hcs
  refine ⟨.agg cur', run_build w t vs cur' ?_, hc'.agg⟩
  unfold tplaces at hpl
  split at hpl <;> try (cases hpl; done)
  · rename_i fs hu
    obtain ⟨l, hl, rfl⟩ := Option.map_eq_some_iff.1 hpl
    simp only [Program.built, hi, hu, hzv, hl]
    rw [← hf]
    congr 1
    funext k
    simp [TP.place]
  · rename_i n e hu
    obtain ⟨ie, hie, rfl⟩ := Option.map_eq_some_iff.1 hpl
    simp only [Program.built, hi, hu, hzv, hie]
    exact hf
end
end Go.Ag
