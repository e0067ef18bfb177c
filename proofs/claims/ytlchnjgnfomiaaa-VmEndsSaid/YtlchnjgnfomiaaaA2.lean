/- A part of the proof: A2. -/
import Derived.Test.YtlchnjgnfomiaaaA1
import Derived.Laws.CopyRow
import Derived.Laws.Cells
import Derived.Laws.Tables
set_option linter.unusedSimpArgs false
set_option linter.unusedVariables false
namespace Go.Ag
open Go
section
variable {P : Program} {w : World} {D : Nat → Prop} {σ : H}

theorem VR.oneV {c : AV} {x : Value} (h : VR w D c x) (h1 : c.one = true) : x.oneCell' = true := by
  cases h <;> first | exact h1 | rfl | cases h1

/-- Cells of an abstract value, and of the value. -/
theorem VR.cells {c : AV} {x : Value} (h : VR w D c x) (h1 : ∀ y ∈ c.cells, y.one = true) :
    c.cells.length = x.cells.size ∧ ∀ (j : Nat) (y : AV) (v : Value), c.cells[j]? = some y → x.cells[j]? = some v → VR w D y v := by
  have single : ∀ {c : AV} {x : Value}, VR w D c x → c.cells = [c] → c.one = true → c.cells.length = x.cells.size ∧ ∀ (j : Nat) (y : AV) (v : Value), c.cells[j]? = some y → x.cells[j]? = some v → VR w D y v := by
    intro c x h hc h1
    have hx := h.oneV h1
    have hx' : x.cells = #[x] := by cases x <;> first | rfl | cases hx
    rw [hc, hx']
    refine ⟨rfl, fun j y v hj hv => ?_⟩
    cases j with
    | zero => simp at hj hv; subst hj; subst hv; exact h
    | succ j => simp at hj
  cases h with
  | agg cs vs hl hone hv => exact ⟨hl, hv⟩
  | v x => exact single (.v x) rfl (h1 _ (by simp [AV.cells]))
  | tup cs vs hl hv => exact absurd (h1 (.tup cs) (by simp [AV.cells])) (by simp [AV.one])
  | ro xs a cap sz vals hsz hm hv hlen hcap => exact single (.ro xs a cap sz vals hsz hm hv hlen hcap) rfl rfl
  | elt cs b o vals hD hb hone hm hv => exact single (.elt cs b o vals hD hb hone hm hv) rfl rfl
  | sl b len sz e cap cur hb hc hl hcm => exact single (.sl b len sz e cap cur hb hc hl hcm) rfl rfl
  | win b off len sz cap a hl ha => exact single (.win b off len sz cap a hl ha) rfl rfl
  | «at» b i j sz => exact single (.at b i j sz) rfl rfl
  | mt a => exact single (.mt a) rfl rfl

/-- What stands behind an address, from there on. -/
def acells (σ : H) : AV → Option (List AV)
  | .v (.pointer (some ⟨b, o, none⟩)) => match σ b with
    | some (.st cs) => some (cs.drop o)
    | _ => none
  | .at b i j sz => match σ b with
    | some (.rows _ sz' xs) => if sz' = sz then (xs[i]?).map (·.drop j) else none
    | _ => none
  | .elt cs => some cs
  | _ => none

theorem cell_of_heap {b j : Nat} {cur : Array Value} {e : TypeId} {fr : Nat × Nat} (h : w.heap[b]? = some (Obj.cells cur e fr)) : w.cell? ⟨b, j, none⟩ = cur[j]? := by
  simp [World.cell?, h]

theorem acells_sound (hR : HR σ w) {x : AV} {v : Value} {cs : List AV} (h : acells σ x = some cs) (hx : VR w (dom σ) x v) :
    ∃ (b o : Nat) (vals : Nat → Value), v = .pointer (some ⟨b, o, none⟩) ∧
      ∀ (j : Nat) (c : AV), cs[j]? = some c → w.cell? ⟨b, o + j, none⟩ = some (vals j) ∧ VR w (dom σ) c (vals j) ∧ c.one = true := by
  cases hx with
  | v x =>
    unfold acells at h
    split at h <;> try (cases h; done)
    · rename_i y b o heq
      cases heq
      split at h <;> try (cases h; done)
      rename_i cs' hb
      cases h
      obtain ⟨cur, e, h1, h2⟩ := hR b _ hb
      cases h2 with
      | st _ _ _ hl hone hv =>
        refine ⟨b, o, fun j => cur.getD (o + j) undef, rfl, fun j c hj => ?_⟩
        rw [List.getElem?_drop] at hj
        have hlt : o + j < cs'.length := (List.getElem?_eq_some_iff.1 hj).1
        have hlt' : o + j < cur.size := Nat.lt_of_lt_of_le hlt hl
        have hc : cur[o + j]? = some (cur.getD (o + j) undef) := by simp [hlt']
        exact ⟨by rw [cell_of_heap h1]; exact hc, hv _ _ _ hj hc, hone _ (List.mem_of_getElem? hj)⟩
    · rename_i heq; cases heq
    · rename_i heq; cases heq
  | elt cs' b o vals hD hb hone hm hv =>
    simp only [acells, Option.some.injEq] at h
    subst h
    refine ⟨b, o, vals, rfl, fun j c hj => ⟨hm j (List.getElem?_eq_some_iff.1 hj).1, hv j c hj, hone c (List.mem_of_getElem? hj)⟩⟩
  | «at» b i j sz =>
    simp only [acells] at h
    split at h <;> try (cases h; done)
    rename_i e sz' xs hb
    split at h <;> try (cases h; done)
    rename_i hs
    subst hs
    obtain ⟨r, hr, rfl⟩ := Option.map_eq_some_iff.1 h
    obtain ⟨cur, e', h1, h2⟩ := hR b _ hb
    cases h2 with
    | rows _ _ _ _ hl hlen hone hv =>
      obtain ⟨hrl, hr1⟩ := hone i r hr
      have hi : i < xs.length := (List.getElem?_eq_some_iff.1 hr).1
      refine ⟨b, i * sz' + j, fun k => cur.getD (i * sz' + (j + k)) undef, rfl, fun k c hk => ?_⟩
      rw [List.getElem?_drop] at hk
      have hjk : j + k < r.length := (List.getElem?_eq_some_iff.1 hk).1
      have hlt : i * sz' + (j + k) < cur.size := by
        have : (i + 1) * sz' ≤ xs.length * sz' := Nat.mul_le_mul_right _ hi
        rw [Nat.add_mul] at this
        omega
      have hc : cur[i * sz' + (j + k)]? = some (cur.getD (i * sz' + (j + k)) undef) := by simp [hlt]
      exact ⟨by rw [cell_of_heap h1, Nat.add_assoc]; exact hc, hv i r (j + k) c _ hr hk hc, hr1 _ (List.mem_of_getElem? hk)⟩
  | ro => cases h
  | sl => cases h
  | win => cases h
  | mt => cases h
  | agg => cases h
  | tup => cases h

/-- A type's cells, and whether it is a struct or an array. -/
def tsz (P : Program) (t : TypeId) : Option (Nat × Bool) :=
  match P.info? t, P.underlying t with
  | some i, some (.struct _) => some (i.size, true)
  | some i, some (.array ..) => some (i.size, true)
  | some i, some _ => some (i.size, false)
  | _, _ => none

theorem tsz_spec {t : TypeId} {n : Nat} {ag : Bool} (h : tsz P t = some (n, ag)) : ∃ i d, P.info? t = some i ∧ P.underlying t = some d ∧ i.size = n ∧
    (isAgg t).run P w = .ok ag w := by
  unfold tsz at h
  split at h <;> try (cases h; done)
  all_goals
    rename_i i _ h1 h2
    cases h
    refine ⟨_, _, h1, h2, rfl, ?_⟩
    simp only [isAgg, Sem.run_bind, run_underlying h2, Result.andThen_ok]
    try rfl

theorem run_sizeOf {t : TypeId} {i : TypeInfo} (h : P.info? t = some i) : (sizeOf t).run P w = .ok i.size w := by
  simp [sizeOf, typeInfo, h]

def apack (ag : Bool) (n : Nat) (cs : List AV) : Option AV :=
  if ag then (if n ≤ cs.length then some (.agg (cs.take n)) else none) else cs[0]?

def aload (P : Program) (σ : H) (ty : TypeId) (x : AV) : Option AV :=
  match tsz P ty with
  | some (n, ag) => (acells σ x).bind (apack ag n)
  | none => none

theorem aload_sound (hR : HR σ w) {ty : TypeId} {x y : AV} {v : Value} (h : aload P σ ty x = some y) (hx : VR w (dom σ) x v) :
    ∃ u, (Instr.loadAt ty v).run P w = .ok u w ∧ VR w (dom σ) y u := by
  unfold aload at h
  split at h <;> try (cases h; done)
  rename_i n ag ht
  obtain ⟨i, d, hi, hu, hn, hag⟩ := tsz_spec (w := w) ht
  obtain ⟨cs, hcs, hp⟩ := Option.bind_eq_some_iff.1 h
  obtain ⟨b, o, vals, rfl, hc⟩ := acells_sound hR hcs hx
  unfold apack at hp
  cases ag with
  | true =>
    simp only [if_true] at hp
    split at hp <;> try (cases hp; done)
    rename_i hle
    cases hp
    refine ⟨.agg ((List.range n).map vals).toArray, ?_, ?_⟩
    · have hl := run_loadCells (P := P) w ⟨b, o, none⟩ n vals (fun j hj => by
        rw [show (⟨b, o, none⟩ : Addr).add j = ⟨b, o + j, none⟩ by unfold Addr.add; split <;> simp_all]
        exact (hc j _ (List.getElem?_eq_getElem (Nat.lt_of_lt_of_le hj hle))).1)
      simp only [Instr.loadAt, Instr.sureAddr, loadVar, Sem.run_bind, Sem.run_pure, Result.andThen_ok, hag, if_true, run_sizeOf hi, hn, hl]
    · refine .agg _ _ (by simp [Nat.min_eq_left hle]) (fun c hc' => ?_) (fun j c u hj hu' => ?_)
      · obtain ⟨j, hj⟩ := List.mem_iff_getElem?.1 (List.mem_of_mem_take hc')
        exact (hc j c hj).2.2
      · have hj' : cs[j]? = some c := by
          rw [List.getElem?_take] at hj
          split at hj
          · exact hj
          · cases hj
        have hjn : j < n := by
          rw [List.getElem?_take] at hj
          split at hj
          · assumption
          · cases hj
        simp [hjn] at hu'
        subst hu'
        exact (hc j c hj').2.1
  | false =>
    simp only [Bool.false_eq_true, if_false] at hp
    obtain ⟨h1, h2, _⟩ := hc 0 y hp
    refine ⟨vals 0, ?_, h2⟩
    rw [Nat.add_zero] at h1
    simp only [Instr.loadAt, Instr.sureAddr, loadVar, Sem.run_bind, Sem.run_pure, Result.andThen_ok, hag, Bool.false_eq_true, if_false, run_load, h1]

def splice (l : List AV) (o : Nat) : List AV → List AV
  | [c] => l.set o c
  | cs => l.take o ++ cs ++ l.drop (o + cs.length)

theorem splice_get {l cs : List AV} {o : Nat} (h : o + cs.length ≤ l.length) (j : Nat) : (splice l o cs)[j]? = if o ≤ j ∧ j < o + cs.length then cs[j - o]? else l[j]? := by
  unfold splice
  split
  · rename_i c
    simp only [List.length_singleton] at h ⊢
    rw [List.getElem?_set]
    by_cases hj : o = j
    · subst hj; simp; omega
    · rw [if_neg hj, if_neg (by omega)]
  · simp only [List.getElem?_append, List.length_append, List.length_take, Nat.min_eq_left (show o ≤ l.length by omega), List.getElem?_take, List.getElem?_drop]
    by_cases h1 : j < o
    · rw [if_pos (by omega), if_pos h1, if_pos h1, if_neg (by omega)]
    · by_cases h2 : j < o + cs.length
      · rw [if_pos h2, if_neg h1, if_pos ⟨by omega, h2⟩]
      · rw [if_neg h2, if_neg (by omega)]
        congr 1; omega
theorem splice_length {l cs : List AV} {o : Nat} (h : o + cs.length ≤ l.length) : (splice l o cs).length = l.length := by
  unfold splice
  split
  · simp
  · simp; omega
theorem splice_mem {l cs : List AV} {o : Nat} {c : AV} (h : c ∈ splice l o cs) : c ∈ l ∨ c ∈ cs := by
  unfold splice at h
  split at h
  · rcases List.mem_or_eq_of_mem_set h with h | h
    · exact .inl h
    · exact .inr (by simp [h])
  · rw [List.mem_append, List.mem_append] at h
    rcases h with (h | h) | h
    · exact .inl (List.mem_of_mem_take h)
    · exact .inr h
    · exact .inl (List.mem_of_mem_drop h)

def astore (σ : H) (x : AV) (cs : List AV) : Option H :=
  match x with
  | .v (.pointer (some ⟨b, o, none⟩)) => match σ b with
    | some (.st old) => if o + cs.length ≤ old.length then some (σ.upd b (.st (splice old o cs))) else none
    | _ => none
  | .at b i j sz => match σ b with
    | some (.rows e sz' xs) => if sz' = sz then (match xs[i]? with
      | some r => if j + cs.length ≤ r.length then some (σ.upd b (.rows e sz (xs.set i (splice r j cs)))) else none
      | none => none) else none
    | _ => none
  | _ => none

theorem setRow_le {b : Nat} {cur cs : Array Value} {e : TypeId} {fr : Nat × Nat} (hb : w.heap[b]? = some (Obj.cells cur e fr)) (hs : cs.size = cur.size) (hD : D b) : Le D w (w.setRow b cs) := by
  refine ⟨rfl, rfl, rfl, by simp [World.setRow], fun k _ hk => setRow_other w b k cs (fun he => hk (he ▸ hD)), fun k cur' e' fr' hk => ?_⟩
  by_cases hkb : k = b
  · subst hkb
    rw [hb] at hk
    cases hk
    exact ⟨cs, setRow_heap w k cur cs e fr hb, hs⟩
  · exact ⟨cur', by rw [setRow_other w b k cs hkb]; exact hk, rfl⟩

theorem dom_upd_of {b : Nat} {o o' : AObj} (h : σ b = some o) : dom (σ.upd b o') = dom σ := by
  funext c
  apply propext
  rw [dom_upd]
  constructor
  · rintro (rfl | h')
    · exact dom_of h
    · exact h'
  · exact .inr

/-- A write into an owned block. -/
theorem HR.write (hR : HR σ w) {b : Nat} {o o' : AObj} {cur cs : Array Value} {e : TypeId} (hb : σ b = some o) (hw : w.heap[b]? = some (Obj.cells cur e (0, 0)))
    (hs : cs.size = cur.size) (ho : OR (w.setRow b cs) (dom σ) o' cs e) : HR (σ.upd b o') (w.setRow b cs) ∧ Le (dom σ) w (w.setRow b cs) ∧ DomOk w (dom σ) (dom (σ.upd b o')) := by
  have hle : Le (dom σ) w (w.setRow b cs) := setRow_le hw hs (dom_of hb)
  have hd := dom_upd_of (o' := o') hb
  refine ⟨?_, hle, by rw [hd]; exact DomOk.refl _ _⟩
  intro k ok hk
  rw [hd]
  by_cases hkb : k = b
  · subst hkb
    rw [upd_same] at hk
    cases hk
    exact ⟨cs, e, setRow_heap w k cur cs e _ hw, ho⟩
  · rw [upd_ne _ _ hkb] at hk
    obtain ⟨c1, e1, h1, h2⟩ := hR k ok hk
    exact ⟨c1, e1, by rw [setRow_other w b k cs hkb]; exact h1, h2.mono hle (DomOk.refl _ _)⟩

theorem row_get {cur : Array Value} {vs : List Value} {o : Nat} (h : o + vs.length ≤ cur.size) (j : Nat) :
    (cur.toList.take o ++ vs ++ cur.toList.drop (o + vs.length)).toArray[j]? = if o ≤ j ∧ j < o + vs.length then vs[j - o]? else cur[j]? := by
  have h' : o ≤ cur.toList.length := by simp; omega
  simp only [List.getElem?_toArray, List.getElem?_append, List.length_append, List.length_take, Nat.min_eq_left h', List.getElem?_take, List.getElem?_drop, Array.getElem?_toList]
  by_cases h1 : j < o
  · rw [if_pos (by omega), if_pos h1, if_pos h1, if_neg (by omega)]
  · by_cases h2 : j < o + vs.length
    · rw [if_pos h2, if_neg h1, if_pos ⟨by omega, h2⟩]
    · rw [if_neg h2, if_neg (by omega)]
      congr 1; omega

theorem astore_sound (hR : HR σ w) {ty : TypeId} {x y : AV} {v u : Value} {σ' : H} {n : Nat} {ag : Bool} (ht : tsz P ty = some (n, ag)) (h : astore σ x y.cells = some σ')
    (hn : y.cells.length = n) (hone : ∀ c ∈ y.cells, c.one = true) (hx : VR w (dom σ) x v) (hy : VR w (dom σ) y u) :
    ∃ w', (Instr.storeAt ty v u).run P w = .ok () w' ∧ HR σ' w' ∧ Le (dom σ) w w' ∧ DomOk w (dom σ) (dom σ') := by
  obtain ⟨i, d, hi, hu, hsz, _⟩ := tsz_spec (w := w) ht
  obtain ⟨hl, hvs⟩ := hy.cells hone
  have h1 : ∀ z ∈ u.cells.toList, z.oneCell' = true := by
    intro z hz
    obtain ⟨j, hj⟩ := List.mem_iff_getElem?.1 hz
    have hjl : j < y.cells.length := by rw [hl]; simpa using (List.getElem?_eq_some_iff.1 hj).1
    exact (hvs j _ z (List.getElem?_eq_getElem hjl) (by simpa using hj)).oneV (hone _ (List.getElem_mem hjl))
  have run : ∀ (b o : Nat) (cur : Array Value) (e : TypeId), w.heap[b]? = some (Obj.cells cur e (0, 0)) → o + y.cells.length ≤ cur.size →
      (Instr.storeAt ty (.pointer (some ⟨b, o, none⟩)) u).run P w = .ok () (w.setRow b (cur.toList.take o ++ u.cells.toList ++ cur.toList.drop (o + u.cells.toList.length)).toArray) := by
    intro b o cur e hb ho
    have hst := run_storeCells_at P b o e u.cells.toList 0 cur w hb (by simp; omega) h1
    simp only [Nat.add_zero] at hst
    simp only [Instr.storeAt, Instr.sureAddr, storeVar, Sem.run_bind, Sem.run_pure, Result.andThen_ok, run_sizeOf hi, hsz]
    rw [if_neg (by omega)]
    exact hst
  cases hx with
  | v x =>
    unfold astore at h
    split at h <;> try (cases h; done)
    · rename_i b o heq
      cases heq
      split at h <;> try (cases h; done)
      rename_i old hb
      split at h <;> try (cases h; done)
      rename_i hle
      cases h
      obtain ⟨cur, e, hb1, hb2⟩ := hR b _ hb
      cases hb2 with
      | st _ _ _ hlc honec hvc =>
        refine ⟨_, run b o cur e hb1 (by omega), ?_⟩
        have hsz' : o + u.cells.toList.length ≤ cur.size := by simp; omega
        refine hR.write hb hb1 (by simp; omega) ?_
        have hle' : Le (dom σ) w (w.setRow b (cur.toList.take o ++ u.cells.toList ++ cur.toList.drop (o + u.cells.toList.length)).toArray) := setRow_le hb1 (by simp; omega) (dom_of hb)
        refine .st _ _ _ (by rw [splice_length hle]; simp; omega) (fun c hc => ?_) (fun j c z hj hz => ?_)
        · rcases splice_mem hc with hc | hc
          · exact honec c hc
          · exact hone c hc
        · rw [splice_get hle] at hj
          rw [row_get hsz'] at hz
          have hll : u.cells.toList.length = y.cells.length := by simp; omega
          rw [hll] at hz
          by_cases hin : o ≤ j ∧ j < o + y.cells.length
          · rw [if_pos hin] at hj hz
            exact (hvs _ c z hj (by simpa using hz)).mono hle' (DomOk.refl _ _)
          · rw [if_neg hin] at hj hz
            exact (hvc _ c z hj hz).mono hle' (DomOk.refl _ _)
    · rename_i heq; cases heq
  | «at» b i0 j0 sz =>
    simp only [astore] at h
    split at h <;> try (cases h; done)
    rename_i e sz' xs hb
    split at h <;> try (cases h; done)
    rename_i hse
    subst hse
    split at h <;> try (cases h; done)
    rename_i r hr
    split at h <;> try (cases h; done)
    rename_i hle
    cases h
    obtain ⟨cur, e', hb1, hb2⟩ := hR b _ hb
    cases hb2 with
    | rows _ _ _ _ hlc hlen honec hvc =>
      obtain ⟨hrl, hr1⟩ := honec i0 r hr
      have hi0 : i0 < xs.length := (List.getElem?_eq_some_iff.1 hr).1
      have hmul : (i0 + 1) * sz' ≤ xs.length * sz' := Nat.mul_le_mul_right _ hi0
      rw [Nat.add_mul, Nat.one_mul] at hmul
      refine ⟨_, run b (i0 * sz' + j0) cur e hb1 (by omega), ?_⟩
      have hsz' : i0 * sz' + j0 + u.cells.toList.length ≤ cur.size := by simp; omega
      refine hR.write hb hb1 (by simp; omega) ?_
      have hle' : Le (dom σ) w (w.setRow b (cur.toList.take (i0 * sz' + j0) ++ u.cells.toList ++ cur.toList.drop (i0 * sz' + j0 + u.cells.toList.length)).toArray) := setRow_le hb1 (by simp; omega) (dom_of hb)
      refine .rows _ _ _ _ (by simp only [List.length_set]; simp; omega) (by simpa using hlen) (fun k r' hk => ?_) (fun k r' j c z hk hj hz => ?_)
      · rw [List.getElem?_set] at hk
        by_cases hki : i0 = k
        · rw [if_pos hki, if_pos (by omega)] at hk
          cases hk
          refine ⟨by rw [splice_length hle]; exact hrl, fun c hc => ?_⟩
          rcases splice_mem hc with hc | hc
          · exact hr1 c hc
          · exact hone c hc
        · rw [if_neg hki] at hk
          exact honec k r' hk
      · rw [row_get hsz'] at hz
        have hll : u.cells.toList.length = y.cells.length := by simp; omega
        rw [hll] at hz
        rw [List.getElem?_set] at hk
        by_cases hki : i0 = k
        · rw [if_pos hki, if_pos (by omega)] at hk
          cases hk
          subst hki
          rw [splice_get hle] at hj
          by_cases hin : j0 ≤ j ∧ j < j0 + y.cells.length
          · rw [if_pos hin] at hj
            rw [if_pos (by omega)] at hz
            rw [show i0 * sz' + j - (i0 * sz' + j0) = j - j0 by omega] at hz
            exact (hvs _ c z hj (by simpa using hz)).mono hle' (DomOk.refl _ _)
          · rw [if_neg hin] at hj
            rw [if_neg (by omega)] at hz
            exact (hvc _ r j c z hr hj hz).mono hle' (DomOk.refl _ _)
        · rw [if_neg hki] at hk
          have hkl : k < xs.length := (List.getElem?_eq_some_iff.1 hk).1
          have hjl : j < r'.length := (List.getElem?_eq_some_iff.1 hj).1
          have hr'l := (honec k r' hk).1
          rw [if_neg (by
            rintro ⟨ha, hb'⟩
            rcases Nat.lt_or_gt_of_ne hki with hlt | hgt
            · have : (i0 + 1) * sz' ≤ k * sz' := Nat.mul_le_mul_right _ hlt
              rw [Nat.add_mul, Nat.one_mul] at this
              omega
            · have : (k + 1) * sz' ≤ i0 * sz' := Nat.mul_le_mul_right _ hgt
              rw [Nat.add_mul, Nat.one_mul] at this
              omega)] at hz
          exact (hvc _ r' j c z hk hj hz).mono hle' (DomOk.refl _ _)
  | ro => cases h
  | elt => cases h
  | sl => cases h
  | win => cases h
  | mt => cases h
  | agg => cases h
  | tup => cases h

/-- A block of a struct's or a variable's cells, and of read-only ones. -/
theorem box_own (hR : HR σ w) {y : AV} {u : Value} (e : TypeId) (hone : ∀ c ∈ y.cells, c.one = true) (hy : VR w (dom σ) y u) :
    ∃ w', (Instr.box e u).run P w = .ok (.pointer (some ⟨w.heap.size, 0, none⟩)) w' ∧ σ w.heap.size = none ∧
      HR (σ.upd w.heap.size (.st y.cells)) w' ∧ Le (dom σ) w w' ∧ DomOk w (dom σ) (dom (σ.upd w.heap.size (.st y.cells))) := by
  obtain ⟨hl, hvs⟩ := hy.cells hone
  refine ⟨w.alloc (.cells u.cells e), rfl, hR.fresh, hR.alloc (.st _ _ _ (by omega) hone hvs)⟩

theorem box_ro (hR : HR σ w) {y : AV} {u : Value} (e : TypeId) (hone : ∀ c ∈ y.cells, c.one = true) (hy : VR w (dom σ) y u) :
    ∃ v w', (Instr.box e u).run P w = .ok v w' ∧ VR w' (dom σ) (.elt y.cells) v ∧ HR σ w' ∧ Le (dom σ) w w' := by
  obtain ⟨hl, hvs⟩ := hy.cells hone
  have hle : Le (fun _ => False) w (w.alloc (.cells u.cells e)) := Le.alloc _ _ _
  refine ⟨.pointer (some ⟨w.heap.size, 0, none⟩), w.alloc (.cells u.cells e), rfl, ?_, hR.kept hle, hle.of_false⟩
  refine .elt _ _ _ (fun j => u.cells.getD j undef) (fun hd => Nat.lt_irrefl _ (hR.dom_lt hd)) (by show _ < (w.heap.push _).size; simp) hone (fun j hj => ?_) (fun j c hj => ?_)
  · have hj' : j < u.cells.size := by omega
    rw [Nat.zero_add, cell_of_heap (heap_alloc _ _)]
    simp [hj']
  · have hj' : j < u.cells.size := by have := (List.getElem?_eq_some_iff.1 hj).1; omega
    exact (hvs j c _ hj (by simp [hj'])).mono hle.of_false (DomOk.refl _ _)
end
end Go.Ag
