/- A part of the proof: A6. -/
import Derived.Test.YtlchnjgnfomiaaaA5
import Derived.Laws.MakeOwn
set_option linter.unusedSimpArgs false
set_option linter.unusedVariables false
namespace Go.Ag
open Go
section
variable {P : Program} {w : World} {D : Nat → Prop} {σ : H}

/-- A part of a slice: only what is in bounds. -/
def ASlice (P : Program) (ty : TypeId) (x : AV) (l h : Nat) (K : AV → Prop) : Prop :=
  match tel P ty with
  | some (q, none) => (match x with
    | .ro xs => (∀ r ∈ xs, r.length = q) ∧ l ≤ h ∧ h ≤ xs.length ∧ K (.ro ((xs.take h).drop l))
    | .sl b n sz e => sz = q ∧ l ≤ h ∧ h ≤ n ∧ K (if l = 0 then .sl b h sz e else .win b l (h - l) sz)
    | .win b off n sz => sz = q ∧ l ≤ h ∧ h ≤ n ∧ K (.win b (off + l) (h - l) sz)
    | .v (.slice none 0 0) => l = 0 ∧ h = 0 ∧ K (.v (.slice none 0 0))
    | _ => False)
  | _ => False

theorem run_slice {ty e : TypeId} {i : TypeInfo} (hu : P.underlying ty = some (.slice e)) (hi : P.info? e = some i) (a : Option Addr) (len cap l h : Nat) (lo hi' : Option Value)
    (hlo : lo = none ∧ l = 0 ∨ ∃ k, lo = some (.int k (l : Int))) (hhi : hi' = none ∧ h = len ∨ ∃ k, hi' = some (.int k (h : Int))) (hlh : l ≤ h) (hhc : h ≤ cap) :
    (Instr.sliceAt ty (.slice a len cap) lo hi' none).run P w = .ok (.slice (if cap = l then a else a.map (·.add (l * i.size))) (h - l) (cap - l)) w := by
  have hb : (Instr.sliceBounds true len cap lo hi' none).run P w = .ok (l, h, cap) w := by
    have h1 : ∀ k c, (Instr.sliceBound (.int k (h : Int)) cap c).run P w = .ok h w := by
      intro k c; simp only [Instr.sliceBound, asIntOf, Sem.run_bind, Sem.run_pure, Result.andThen_ok]; rw [if_pos ⟨by omega, by omega⟩]; simp
    have h2 : ∀ k c, (Instr.sliceBound (.int k (l : Int)) h c).run P w = .ok l w := by
      intro k c; simp only [Instr.sliceBound, asIntOf, Sem.run_bind, Sem.run_pure, Result.andThen_ok]; rw [if_pos ⟨by omega, by omega⟩]; simp
    rcases hlo with ⟨rfl, rfl⟩ | ⟨k1, rfl⟩ <;> rcases hhi with ⟨rfl, rfl⟩ | ⟨k2, rfl⟩ <;> simp [Instr.sliceBounds, h1, h2]
  simp [Instr.sliceAt, run_underlying hu, Instr.slice, hb, run_sizeOf hi]

theorem tel_slice {ty : TypeId} {n : Nat} (h : tel P ty = some (n, none)) : ∃ e i, P.underlying ty = some (.slice e) ∧ P.info? e = some i ∧ i.size = n := by
  unfold tel at h
  split at h <;> try (cases h; done)
  · rename_i e hu
    obtain ⟨i, hi, heq⟩ := Option.map_eq_some_iff.1 h
    cases heq
    exact ⟨e, i, hu, hi, rfl⟩
  · obtain ⟨i, hi, heq⟩ := Option.map_eq_some_iff.1 h
    cases heq

theorem ASlice_sound {ty : TypeId} {x : AV} {v : Value} {l h : Nat} {K : AV → Prop} (hs : ASlice P ty x l h K) (hx : VR w D x v) (lo hi' : Option Value)
    (hlo : lo = none ∧ l = 0 ∨ ∃ k, lo = some (.int k (l : Int))) (hhi : hi' = none ∧ alen x = some (h : Int) ∨ ∃ k, hi' = some (.int k (h : Int))) :
    ∃ y u, K y ∧ VR w D y u ∧ (Instr.sliceAt ty v lo hi' none).run P w = .ok u w := by
  unfold ASlice at hs
  split at hs <;> try (exact hs.elim)
  rename_i q ht
  obtain ⟨e0, i, hu, hi, hsz0⟩ := tel_slice ht
  have hlen0 : ∀ n : Nat, alen x = some (n : Int) → (hi' = none ∧ h = n ∨ ∃ k, hi' = some (.int k (h : Int))) := by
    intro n hn
    rcases hhi with ⟨h1, h2⟩ | h1
    · rw [hn] at h2; simp only [Option.some.injEq] at h2; exact .inl ⟨h1, by omega⟩
    · exact .inr h1
  have run := fun (a : Option Addr) (len cap : Nat) hh => run_slice (w := w) hu hi a len cap l h lo hi' hlo hh
  cases hx with
  | ro xs a cap sz vals hsz hm hv hlen hcap =>
    obtain ⟨hall, hlh, hhl, hK⟩ := hs
    refine ⟨_, .slice (if cap = l then a else a.map (·.add (l * i.size))) (h - l) (cap - l), hK, ?_, run a _ _ (hlen0 _ rfl) hlh (by omega)⟩
    have hlen2 : h - l = ((xs.take h).drop l).length := by simp; omega
    rw [hlen2]
    have get : ∀ (k : Nat) (r : List AV), ((xs.take h).drop l)[k]? = some r → xs[l + k]? = some r := by
      intro k r hk
      rw [List.getElem?_drop, List.getElem?_take] at hk
      split at hk <;> first | exact hk | cases hk
    refine .ro _ _ _ sz (fun k j => vals (l + k) j) (fun k r hk => hsz _ _ (get k r hk)) (fun hne => ?_) (fun k r j c hk hj => hv _ _ _ _ (get k r hk) hj) (by simp; omega) (by simp; omega)
    have hne' : xs ≠ [] := by rintro rfl; simp at hne
    obtain ⟨b, o, rfl, hD, hb, hc⟩ := hm hne'
    have hlt : l < h := by
      rcases Nat.lt_or_ge l h with h1 | h1
      · exact h1
      · exfalso; apply hne; apply List.eq_nil_of_length_eq_zero; rw [← hlen2]; omega
    have hszq : sz = i.size := by
      rw [hsz0, ← hall _ (List.getElem_mem (show 0 < xs.length by omega)), (hsz 0 _ (List.getElem?_eq_getElem (show 0 < xs.length by omega))).1]
    rw [if_neg (by omega)]
    refine ⟨b, o + l * sz, by simp [addr_add, hszq], hD, hb, fun k r j hk hj => ?_⟩
    have := hc _ _ _ (get k r hk) hj
    rw [show o + l * sz + (k * sz + j) = o + ((l + k) * sz + j) by rw [Nat.add_mul]; omega]
    exact this
  | sl b len sz e cap cur hb hc hl hcm =>
    obtain ⟨hq, hlh, hhl, hK⟩ := hs
    refine ⟨_, .slice (if cap = l then some ⟨b, 0, none⟩ else (some (⟨b, 0, none⟩ : Addr)).map (·.add (l * i.size))) (h - l) (cap - l), hK, ?_, run (some ⟨b, 0, none⟩) len cap (hlen0 _ rfl) hlh (by omega)⟩
    by_cases h0 : l = 0
    · subst h0
      rw [if_pos rfl]
      have : (if cap = 0 then some (⟨b, 0, none⟩ : Addr) else (some (⟨b, 0, none⟩ : Addr)).map (·.add (0 * i.size))) = some ⟨b, 0, none⟩ := by simp [addr_add]
      rw [this]
      exact .sl b _ sz e _ cur hb (by simpa using hc) (by omega) (by omega)
    · rw [if_neg h0]
      refine .win b l (h - l) sz _ _ (by omega) (fun hp => ?_)
      rw [if_neg (by omega)]
      simp [addr_add, hq, hsz0]
  | win b off len sz cap a hl ha =>
    obtain ⟨hq, hlh, hhl, hK⟩ := hs
    refine ⟨_, .slice (if cap = l then a else a.map (·.add (l * i.size))) (h - l) (cap - l), hK, ?_, run a len cap (hlen0 _ rfl) hlh (by omega)⟩
    refine .win b (off + l) (h - l) sz _ _ (by omega) (fun hp => ?_)
    rw [if_neg (by omega), ha (by omega)]
    simp [addr_add, hsz0, hq, Nat.add_mul]
  | v x =>
    split at hs <;> try (exact hs.elim)
    all_goals (rename_i heq; cases heq)
    obtain ⟨rfl, rfl, hK⟩ := hs
    exact ⟨_, .slice none 0 0, hK, .v _, run none 0 0 (hlen0 0 rfl) (Nat.le_refl _) (Nat.le_refl _)⟩
  | elt => exact hs.elim
  | «at» => exact hs.elim
  | mt => exact hs.elim
  | agg => exact hs.elim
  | tup => exact hs.elim

/-! ### makes -/
/-- A row of zero elements. -/
theorem make_rows (hR : HR σ w) {z : List AV} {zv : Array Value} {e : TypeId} (hz : CR w (dom σ) z zv) (n c : Nat) (hn : n ≤ c) (hc : c ≤ maxLen) :
    HR (σ.upd w.heap.size (.rows e zv.size (List.replicate n z))) (w.alloc (.cells ((Array.range (c * zv.size)).map fun i => zv[i % zv.size]!) e)) ∧
    Le (dom σ) w (w.alloc (.cells ((Array.range (c * zv.size)).map fun i => zv[i % zv.size]!) e)) ∧
    DomOk w (dom σ) (dom (σ.upd w.heap.size (.rows e zv.size (List.replicate n z)))) := by
  have hmul : n * zv.size ≤ c * zv.size := Nat.mul_le_mul_right _ hn
  refine hR.alloc (.rows e zv.size _ _ (by simpa using hmul) (by simp; omega) (fun i r hr => ?_) (fun i r j c' x hr hj hx => ?_))
  · rw [List.getElem?_replicate] at hr
    split at hr <;> try (cases hr; done)
    cases hr
    exact ⟨hz.len, hz.one⟩
  · rw [List.getElem?_replicate] at hr
    split at hr <;> try (cases hr; done)
    cases hr
    have hjl : j < zv.size := by rw [← hz.len]; exact (List.getElem?_eq_some_iff.1 hj).1
    simp only [Array.getElem?_map, Array.getElem?_range] at hx
    split at hx <;> try (cases hx; done)
    simp only [Option.map_some, Option.some.injEq] at hx
    rw [Nat.mul_comm, Nat.mul_add_mod, Nat.mod_eq_of_lt hjl] at hx
    refine hz.rel j c' x hj ?_
    rw [← hx]
    simp [hjl]

/-- The bytes of an element, for the bounds of makes and appends. -/
def tbytes (P : Program) (ty : TypeId) : Option (TypeId × Nat) :=
  match P.underlying ty with
  | some (.slice e) => (P.info? e).map fun i => (e, i.bytes)
  | _ => none

def AMake (P : Program) (ty : TypeId) (σ : H) (n c : Int) (K : AV → H → Prop) : Prop :=
  match tel P ty, tbytes P ty with
  | some (q, none), some (e, by_) => (match tzero P e with
    | some z => 0 ≤ n ∧ n ≤ c ∧ c ≤ 9223372036854775807 ∧ by_ * c ≤ 140737488355328 ∧ z.length = q ∧
        ∀ b, σ b = none → K (.sl b n.toNat q e) (σ.upd b (.rows e q (List.replicate n.toNat z)))
    | none => False)
  | _, _ => False

theorem AMake_sound (hR : HR σ w) {ty : TypeId} {n c : Int} {k1 k2 : IntKind} {K : AV → H → Prop} (h : AMake P ty σ n c K) :
    ∃ y u σ' w', K y σ' ∧ (Instr.makeSlice ty (.int k1 n) (.int k2 c)).run P w = .ok u w' ∧ VR w' (dom σ') y u ∧ HR σ' w' ∧ Le (dom σ) w w' ∧ DomOk w (dom σ) (dom σ') := by
  unfold AMake at h
  split at h <;> try (exact h.elim)
  rename_i q e by_ ht hb
  split at h <;> try (exact h.elim)
  rename_i z hz
  obtain ⟨h0, hnc, hcm, hby, hzl, hK⟩ := h
  obtain ⟨e', i, hu, hi, rfl⟩ := tel_slice ht
  unfold tbytes at hb
  rw [hu] at hb
  simp only [hi, Option.map_some, Option.some.injEq, Prod.mk.injEq] at hb
  obtain ⟨rfl, rfl⟩ := hb
  obtain ⟨n, rfl⟩ := Int.eq_ofNat_of_zero_le h0
  obtain ⟨c, rfl⟩ := Int.eq_ofNat_of_zero_le (Int.le_trans h0 hnc)
  obtain ⟨zv, i', hi', hzv, hzr, hzc⟩ := tzero_sound (w := w) (D := dom σ) hz
  rw [hi] at hi'
  cases hi'
  have hzs : zv.cells.size = i.size := by rw [← hzc.len, hzl]
  have hnc' : n ≤ c := by omega
  obtain ⟨m1, m2, m3⟩ := make_rows (e := e') hR hzc n c hnc' (by simp only [maxLen]; omega)
  rw [Int.toNat_natCast] at hK
  have hr := run_make (P := P) w ty e' i zv hu hi hzv k1 k2 n c (by omega) (by omega) (by omega) hcm
  simp only [Int.toNat_natCast] at hr
  rw [hzs] at m1 m2 m3
  have hmade : madeCells zv.cells (c * i.size) = (Array.range (c * i.size)).map fun i => zv.cells[i % zv.cells.size]! := by
    unfold madeCells; rfl
  rw [hmade, hzs] at hr
  exact ⟨_, _, _, _, hK w.heap.size hR.fresh, hr, .sl _ n _ _ c _ (heap_alloc _ _) (by simp) hnc' (by simp only [maxLen]; omega), m1, m2, m3⟩

/-! ### A list that is built up: nil, or an owned row of its own -/
def OS (e : TypeId) (sz : Nat) (σ0 σ : H) (y : AV) (xs : List (List AV)) : Prop :=
  (y = .v (.slice none 0 0) ∧ xs = [] ∧ σ = σ0) ∨ ∃ b, σ0 b = none ∧ y = .sl b xs.length sz e ∧ σ = σ0.upd b (.rows e sz xs)

/-- What a slice's elements are. -/
def arows (σ : H) : AV → Option (List (List AV))
  | .ro xs => some xs
  | .v (.slice _ 0 _) => some []
  | .mt => some []
  | .sl b n sz _ => match σ b with
    | some (.rows _ sz' xs) => if sz' = sz ∧ n ≤ xs.length then some (xs.take n) else none
    | _ => none
  | .win b off n sz => match σ b with
    | some (.rows _ sz' xs) => if sz' = sz ∧ off + n ≤ xs.length then some ((xs.drop off).take n) else none
    | _ => none
  | _ => none

/-- Rows and the values of their cells. -/
structure RR (w : World) (D : Nat → Prop) (q : Nat) (rs : List (List AV)) (vs : List Value) : Prop where
  len : vs.length = rs.length * q
  row : ∀ r ∈ rs, r.length = q
  rel : ∀ (i : Nat) (r : List AV) (j : Nat) (c : AV) (u : Value), rs[i]? = some r → r[j]? = some c → vs[i * q + j]? = some u → VR w D c u
  one : ∀ r ∈ rs, ∀ c ∈ r, c.one = true

theorem RR.nil (w : World) (D : Nat → Prop) (q : Nat) : RR w D q [] [] := ⟨by simp, by simp, by simp, by simp⟩
theorem RR.append {q : Nat} {xs ys : List (List AV)} {us vs : List Value} (h : RR w D q xs us) (h' : RR w D q ys vs) : RR w D q (xs ++ ys) (us ++ vs) where
  len := by simp [h.len, h'.len, Nat.add_mul]
  row r hr := (List.mem_append.1 hr).elim (h.row r) (h'.row r)
  one r hr := (List.mem_append.1 hr).elim (h.one r) (h'.one r)
  rel i r j c u hi hj hu := by
    rw [List.getElem?_append] at hi
    split at hi
    · rename_i hlt
      have hjq : j < q := by rw [← h.row r (List.mem_of_getElem? hi)]; exact (List.getElem?_eq_some_iff.1 hj).1
      have : (i + 1) * q ≤ xs.length * q := Nat.mul_le_mul_right _ hlt
      rw [Nat.add_mul, Nat.one_mul] at this
      rw [List.getElem?_append_left (by rw [h.len]; omega)] at hu
      exact h.rel i r j c u hi hj hu
    · rename_i hge
      have hge : xs.length * q ≤ i * q := Nat.mul_le_mul_right _ (by omega)
      rw [List.getElem?_append_right (by rw [h.len]; omega), h.len] at hu
      exact h'.rel _ r j c u hi hj (by rw [Nat.sub_mul]; rw [show i * q - xs.length * q + j = i * q + j - xs.length * q by omega]; exact hu)
theorem RR.mono {D' : Nat → Prop} {w' : World} (hle : Le D w w') (hd : DomOk w D D') {q : Nat} {rs : List (List AV)} {vs : List Value} (h : RR w D q rs vs) : RR w' D' q rs vs :=
  ⟨h.len, h.row, fun i r j c u h1 h2 h3 => (h.rel i r j c u h1 h2 h3).mono hle hd, h.one⟩
/-- A block that begins with the rows. -/
theorem RR.obj {q : Nat} {rs : List (List AV)} {vs : List Value} (h : RR w D q rs vs) (e : TypeId) (cur : Array Value) (hc : cur.toList.take (rs.length * q) = vs) (hm : rs.length ≤ maxLen) : OR w D (.rows e q rs) cur e := by
  have hl : rs.length * q ≤ cur.size := by
    have h1 := h.len
    rw [← hc, List.length_take] at h1
    simp at h1
    omega
  refine .rows e q rs cur hl hm (fun i r hr => ⟨h.row r (List.mem_of_getElem? hr), h.one r (List.mem_of_getElem? hr)⟩) (fun i r j c x hr hj hx => h.rel i r j c x hr hj ?_)
  have hi : i < rs.length := (List.getElem?_eq_some_iff.1 hr).1
  have hjq : j < q := by rw [← h.row r (List.mem_of_getElem? hr)]; exact (List.getElem?_eq_some_iff.1 hj).1
  have : (i + 1) * q ≤ rs.length * q := Nat.mul_le_mul_right _ hi
  rw [Nat.add_mul, Nat.one_mul] at this
  rw [← hc, List.getElem?_take, if_pos (by omega)]
  simpa using hx

/-- The rows' values out of a function of the place. -/
theorem RR.of_fun {q : Nat} {rs : List (List AV)} (f : Nat → Nat → Value) (hrow : ∀ r ∈ rs, r.length = q ∧ ∀ c ∈ r, c.one = true) (hv : ∀ (i : Nat) (r : List AV) (j : Nat) (c : AV), rs[i]? = some r → r[j]? = some c → VR w D c (f i j)) :
    RR w D q rs ((List.range (rs.length * q)).map fun k => f (k / q) (k % q)) := by
  refine ⟨by simp, fun r hr => (hrow r hr).1, fun i r j c u hi hj hu => ?_, fun r hr => (hrow r hr).2⟩
  have hjq : j < q := by rw [← (hrow r (List.mem_of_getElem? hi)).1]; exact (List.getElem?_eq_some_iff.1 hj).1
  simp only [List.getElem?_map] at hu
  obtain ⟨k, hk, rfl⟩ := Option.map_eq_some_iff.1 hu
  rw [List.getElem?_range (by
    have := (List.getElem?_eq_some_iff.1 hk).1
    simpa using this)] at hk
  cases hk
  rw [Nat.mul_comm, Nat.mul_add_div (by omega), Nat.div_eq_of_lt hjq, Nat.add_zero, Nat.mul_add_mod, Nat.mod_eq_of_lt hjq]
  exact hv i r j c hi hj

/-- A source to be copied: its value is a slice of so many elements whose cells are known. -/
theorem arows_sound (hR : HR σ w) {x : AV} {v : Value} {rs : List (List AV)} {q : Nat} (hpos : 0 < q) (h : arows σ x = some rs) (hx : VR w (dom σ) x v) (hq : ∀ r ∈ rs, r.length = q) :
    ∃ (a : Option Addr) (c : Nat), v = .slice a rs.length c ∧ (rs ≠ [] → ∃ b o vs, a = some ⟨b, o, none⟩ ∧ (∀ (j : Nat) (u : Value), vs[j]? = some u → w.cell? ⟨b, o + j, none⟩ = some u) ∧ RR w (dom σ) q rs vs) := by
  have blocks : ∀ (b k : Nat) (e : TypeId) (xs : List (List AV)) (sz : Nat), σ b = some (.rows e sz xs) → rs = (xs.drop k).take rs.length → rs ≠ [] →
      ∃ vs, (∀ (j : Nat) (u : Value), vs[j]? = some u → w.cell? ⟨b, k * sz + j, none⟩ = some u) ∧ RR w (dom σ) q rs vs := by
    intro b k e xs sz hb hrs hne
    obtain ⟨cur, e', h1, h2⟩ := hR b _ hb
    cases h2 with
    | rows _ _ _ _ hl hlen hone hv =>
      have get : ∀ (i : Nat) (r : List AV), rs[i]? = some r → xs[k + i]? = some r := by
        intro i r hi
        rw [hrs, List.getElem?_take] at hi
        split at hi
        · rwa [List.getElem?_drop] at hi
        · cases hi
      have hszq : sz = q := by
        cases hrs0 : rs with
        | nil => exact absurd hrs0 hne
        | cons r rs' =>
          have h0 := get 0 r (by rw [hrs0]; rfl)
          rw [← (hone _ _ h0).1]
          exact hq r (by rw [hrs0]; exact List.mem_cons_self)
      subst hszq
      refine ⟨_, ?_, RR.of_fun (fun i j => cur.getD ((k + i) * sz + j) undef) (fun r hr => ?_) (fun i r j c hi hj => ?_)⟩
      · intro j u hj
        simp only [List.getElem?_map] at hj
        obtain ⟨m, hm, rfl⟩ := Option.map_eq_some_iff.1 hj
        have hjl : j < rs.length * sz := by simpa using (List.getElem?_eq_some_iff.1 hm).1
        rw [List.getElem?_range hjl] at hm
        cases hm
        have hdm := Nat.div_add_mod j sz
        have hil : j / sz < rs.length := Nat.div_lt_of_lt_mul (by rw [Nat.mul_comm]; exact hjl)
        have h0 := get _ _ (List.getElem?_eq_getElem hil)
        have hkl : k + j / sz < xs.length := (List.getElem?_eq_some_iff.1 h0).1
        have hml : (k + j / sz + 1) * sz ≤ xs.length * sz := Nat.mul_le_mul_right _ hkl
        have hmod := Nat.mod_lt j hpos
        rw [Nat.add_mul, Nat.one_mul] at hml
        have heq : (k + j / sz) * sz + j % sz = k * sz + j := by rw [Nat.add_mul, Nat.mul_comm (j / sz)]; omega
        rw [cell_of_heap h1, heq]
        have : k * sz + j < cur.size := by omega
        simp [this]
      · obtain ⟨i, hi⟩ := List.mem_iff_getElem?.1 hr
        exact hone _ _ (get i r hi)
      · have h0 := get i r hi
        have hkl : k + i < xs.length := (List.getElem?_eq_some_iff.1 h0).1
        have hml : (k + i + 1) * sz ≤ xs.length * sz := Nat.mul_le_mul_right _ hkl
        rw [Nat.add_mul, Nat.one_mul] at hml
        have hjq : j < sz := by rw [← (hone _ _ h0).1]; exact (List.getElem?_eq_some_iff.1 hj).1
        have hlt : (k + i) * sz + j < cur.size := by omega
        exact hv _ _ _ _ _ h0 hj (by simp [hlt])
  cases hx with
  | ro xs a cap sz vals hsz hm hv hlen hcap =>
    simp only [arows, Option.some.injEq] at h
    subst h
    refine ⟨a, cap, rfl, fun hne => ?_⟩
    obtain ⟨b, o, rfl, hD, hb, hc⟩ := hm hne
    have hszq : sz = q := by
      cases xs with
      | nil => exact absurd rfl hne
      | cons r xs => rw [← (hsz 0 r rfl).1]; exact hq r List.mem_cons_self
    subst hszq
    refine ⟨b, o, _, rfl, ?_, RR.of_fun vals (fun r hr => ?_) hv⟩
    · intro j u hj
      simp only [List.getElem?_map] at hj
      obtain ⟨m, hm, rfl⟩ := Option.map_eq_some_iff.1 hj
      have hjl : j < xs.length * sz := by simpa using (List.getElem?_eq_some_iff.1 hm).1
      rw [List.getElem?_range hjl] at hm
      cases hm
      have hdm := Nat.div_add_mod j sz
      have hil : j / sz < xs.length := Nat.div_lt_of_lt_mul (by rw [Nat.mul_comm]; exact hjl)
      have := hc (j / sz) _ (j % sz) (List.getElem?_eq_getElem hil) (by rw [(hsz _ _ (List.getElem?_eq_getElem hil)).1]; exact Nat.mod_lt _ hpos)
      rw [Nat.mul_comm (j / sz), hdm] at this
      exact this
    · obtain ⟨i, hi⟩ := List.mem_iff_getElem?.1 hr
      exact hsz _ _ hi
  | v x =>
    unfold arows at h
    split at h <;> try (cases h; done)
    all_goals (rename_i heq; cases heq)
    cases h
    exact ⟨_, _, rfl, fun h => absurd rfl h⟩
  | mt a => simp only [arows, Option.some.injEq] at h; subst h; exact ⟨a, 0, rfl, fun h => absurd rfl h⟩
  | sl b len sz e cap cur hb hc hl hcm =>
    simp only [arows] at h
    split at h <;> try (cases h; done)
    rename_i e' sz' xs hbo
    split at h <;> try (cases h; done)
    rename_i hle
    obtain ⟨rfl, hle⟩ := hle
    cases h
    refine ⟨_, cap, by rw [List.length_take, Nat.min_eq_left hle], fun hne => ?_⟩
    obtain ⟨vs, h1, h2⟩ := blocks b 0 e' xs sz' hbo (by simp) hne
    exact ⟨b, 0, vs, rfl, by simpa using h1, h2⟩
  | win b off len sz cap a hl ha =>
    simp only [arows] at h
    split at h <;> try (cases h; done)
    rename_i e' sz' xs hbo
    split at h <;> try (cases h; done)
    rename_i hle
    obtain ⟨rfl, hle⟩ := hle
    cases h
    have hlen : ((xs.drop off).take len).length = len := by simp; omega
    refine ⟨a, cap, by rw [hlen], fun hne => ?_⟩
    obtain ⟨vs, h1, h2⟩ := blocks b off e' xs sz' hbo (by rw [hlen]) hne
    have hp : 0 < len := by
      rcases Nat.eq_zero_or_pos len with rfl | h
      · simp at hne
      · exact h
    exact ⟨b, off * sz', vs, ha hp, h1, h2⟩
  | elt => cases h
  | «at» => cases h
  | agg => cases h
  | tup => cases h

theorem Le.drew (D : Nat → Prop) (w : World) : Le D w w.drew := ⟨rfl, rfl, rfl, Nat.le_refl _, fun _ _ _ => rfl, fun _ cur _ _ h => ⟨cur, h, rfl⟩⟩
theorem HR.drew (h : HR σ w) : HR σ w.drew := h.kept (Le.drew _ w)

/-- A grown row: a new block. -/
theorem grow_new (hR : HR σ w) {σ0 : H} {q : Nat} {rs : List (List AV)} {vs : List Value} (e : TypeId) (rest : Array Value) (h : RR w (dom σ) q rs vs) (hm : rs.length ≤ maxLen)
    (h0 : ∀ b o, σ0 b = some o → σ b = some o) (cap : Nat) (hcap : rs.length ≤ cap) (hcm : cap ≤ maxLen) (hsz : (vs.toArray ++ rest).size = cap * q) :
    OS e q σ0 (σ0.upd w.heap.size (.rows e q rs)) (.sl w.heap.size rs.length q e) rs ∧
    VR (w.drew.alloc (.cells (vs.toArray ++ rest) e)) (dom (σ0.upd w.heap.size (.rows e q rs))) (.sl w.heap.size rs.length q e) (.slice (some ⟨w.heap.size, 0, none⟩) rs.length cap) ∧
    HR (σ0.upd w.heap.size (.rows e q rs)) (w.drew.alloc (.cells (vs.toArray ++ rest) e)) ∧ Le (dom σ) w (w.drew.alloc (.cells (vs.toArray ++ rest) e)) ∧
    DomOk w (dom σ) (dom (σ0.upd w.heap.size (.rows e q rs))) := by
  have hsub : ∀ b, dom σ0 b → dom σ b := by
    intro b hb
    unfold dom at hb
    cases h1 : σ0 b with
    | none => rw [h1] at hb; cases hb
    | some o => exact dom_of (h0 b o h1)
  have hR0 : HR σ0 w := by
    intro b o hb
    obtain ⟨cur, e', h1, h2⟩ := hR b o (h0 b o hb)
    exact ⟨cur, e', h1, h2.mono (Le.refl _ _) (fun k _ hk => hsub k hk)⟩
  have hRd : HR σ0 w.drew := hR0.drew
  have hob : OR w.drew (dom σ0) (.rows e q rs) (vs.toArray ++ rest) e := by
    refine ((h.mono (D' := dom σ0) (Le.drew (dom σ) w) (fun k _ hk => hsub k hk)).obj e (vs.toArray ++ rest) ?_ hm)
    rw [← h.len]; simp
  obtain ⟨g1, g2, g3⟩ := hRd.alloc hob
  have hs : w.drew.heap.size = w.heap.size := rfl
  rw [hs] at g1 g3
  refine ⟨.inr ⟨w.heap.size, hRd.fresh, rfl, rfl⟩, .sl _ _ _ _ cap _ (heap_alloc w.drew _) hsz hcap hcm, g1, ?_, ?_⟩
  · exact (Le.drew (dom σ) w).trans (D' := dom σ) (Le.alloc _ _ _) (DomOk.refl _ _)
  · intro b hb hd
    exact hsub b (g3 b hb hd)

theorem zeroCells_size (z : Array Value) (n : Nat) : (Builtin.zeroCells z n).size = n * z.size := by simp [Builtin.zeroCells]

theorem run_append (hR : HR σ w) {σ0 : H} {ty e : TypeId} {i : TypeInfo} {z : Value} {y x : AV} {u v : Value} {xs rs : List (List AV)} (hu : P.underlying ty = some (.slice e)) (hi : P.info? e = some i) (hz : i.zero = some z)
    (hzs : z.cells.size = i.size) (hpos : 0 < i.size) (hos : OS e i.size σ0 σ y xs) (hy : VR w (dom σ) y u) (hx : VR w (dom σ) x v) (hrs : arows σ x = some rs) (hq : ∀ r ∈ rs, r.length = i.size)
    (hm : xs.length + rs.length ≤ maxLen) (hb : (xs.length + rs.length) * i.bytes ≤ 140737488355328) (r : TypeId) :
    ∃ y' u' σ' w', OS e i.size σ0 σ' y' (xs ++ rs) ∧ (Builtin.append_ #[ty, ty] r #[u, v]).run P w = .ok u' w' ∧ VR w' (dom σ') y' u' ∧ HR σ' w' ∧ Le (dom σ) w w' ∧ DomOk w (dom σ) (dom σ') := by
  obtain ⟨a, c, rfl, hsrc⟩ := arows_sound hR hpos hrs hx hq
  -- nothing is appended
  by_cases hne : rs = []
  · subst hne
    have hf : (Builtin.firstCells i.size 0 (.slice a 0 c)).run P w = .ok #[] w := by
      cases a with
      | none => simp [Builtin.firstCells]
      | some a => simp only [Builtin.firstCells, Nat.zero_mul]; rfl
    refine ⟨y, u, σ, w, by simpa using hos, ?_, hy, hR, Le.refl _ _, DomOk.refl _ _⟩
    rcases hos with ⟨rfl, rfl, rfl⟩ | ⟨b, hb0, rfl, rfl⟩
    · cases hy
      simp [Builtin.append_, run_underlying hu, sizeOf, typeInfo, hi, Builtin.lenOf, hf]
    · cases hy with
      | sl _ _ _ _ cap cur hbb hc hl hcm =>
      simp [Builtin.append_, run_underlying hu, sizeOf, typeInfo, hi, Builtin.lenOf, hf, hl, storeCells]
  obtain ⟨bs, os, news, rfl, hnews, hRR⟩ := hsrc hne
  have hn0 : 0 < rs.length := List.length_pos_iff.2 hne
  have hnews' : ∀ (j : Nat) (u : Value), news[j]? = some u → w.cell? ((⟨bs, os, none⟩ : Addr).add j) = some u := by
    intro j u hj; rw [addr_add]; exact hnews j u hj
  rcases hos with ⟨rfl, rfl, rfl⟩ | ⟨b, hb0, rfl, rfl⟩
  · -- onto nil
    cases hy
    have hr := run_append_nil (P := P) w ty r e i z hu hi hz ⟨bs, os, none⟩ rs.length c news hRR.len hnews' hn0 (by simp only [maxLen, List.length_nil, Nat.zero_add] at hm; omega) (by simp only [List.length_nil, Nat.zero_add] at hb; omega)
    have hge := grownCap_ge w rs.length 0 e
    have hcm := grownCap_le_maxLen w rs.length 0 e (by simpa using hm)
    obtain ⟨g1, g2, g3, g4, g5⟩ := grow_new hR (σ0 := σ) e (Builtin.zeroCells z.cells (grownCap w rs.length 0 e - rs.length)) hRR (by simpa using hm) (fun _ _ h => h) _ hge hcm (by
      rw [Array.size_append, zeroCells_size, List.size_toArray, hRR.len, hzs, ← Nat.add_mul]; congr 1; omega)
    exact ⟨_, _, _, _, by simpa using g1, hr, g2, g3, g4, g5⟩
  · -- onto a row of its own
    obtain ⟨cur0, e0, hbw, hobj⟩ := hR b _ (upd_same _ _ _)
    cases hy with
    | sl _ _ _ _ cap cur hbb hc hl hcm =>
    rw [hbw] at hbb
    cases hbb
    cases hobj with
    | rows _ _ _ _ hl0 hlen0 hone0 hv0 =>
    -- the old cells
    have holdsRR : RR w (dom (σ0.upd b (.rows e i.size xs))) i.size xs (cur0.toList.take (xs.length * i.size)) := by
      refine ⟨by simp; omega, fun r hr => ?_, fun k r j c' u' hk hj hu' => ?_, fun r hr => ?_⟩
      · obtain ⟨k, hk⟩ := List.mem_iff_getElem?.1 hr; exact (hone0 k r hk).1
      · rw [List.getElem?_take] at hu'
        split at hu' <;> try (cases hu'; done)
        exact hv0 k r j c' u' hk hj (by simpa using hu')
      · obtain ⟨k, hk⟩ := List.mem_iff_getElem?.1 hr; exact (hone0 k r hk).2
    have hall := holdsRR.append hRR
    have hlenall : (xs ++ rs).length = xs.length + rs.length := by simp
    by_cases hroom : xs.length + rs.length ≤ cap
    · -- there is room
      have hfit : xs.length * i.size + news.length ≤ cur0.size := by
        rw [hRR.len, ← Nat.add_mul, hc]; exact Nat.mul_le_mul_right _ hroom
      have h1 : ∀ x ∈ news, x.oneCell' = true := by
        intro x hx'
        obtain ⟨j, hj⟩ := List.mem_iff_getElem?.1 hx'
        have hjl : j < rs.length * i.size := by rw [← hRR.len]; exact (List.getElem?_eq_some_iff.1 hj).1
        have hil : j / i.size < rs.length := Nat.div_lt_of_lt_mul (by rw [Nat.mul_comm]; exact hjl)
        have hri := List.getElem?_eq_getElem hil
        have hrl := hRR.row _ (List.mem_of_getElem? hri)
        have hjm : j % i.size < rs[j / i.size].length := by rw [hrl]; exact Nat.mod_lt _ hpos
        have hcj := List.getElem?_eq_getElem hjm
        have hdm := Nat.div_add_mod j i.size
        exact (hRR.rel _ _ _ _ x hri hcj (by rw [Nat.mul_comm (j / i.size), hdm]; exact hj)).oneV (hRR.one _ (List.mem_of_getElem? hri) _ (List.mem_of_getElem? hcj))
      have hr := run_append_room (P := P) w ty r e i hu hi b xs.length cap cur0 hbw ⟨bs, os, none⟩ rs.length c news hRR.len hnews' h1 hroom hfit
      have hsz2 : (cur0.toList.take (xs.length * i.size) ++ news ++ cur0.toList.drop (xs.length * i.size + news.length)).toArray.size = cur0.size := by simp; omega
      have hle : Le (dom (σ0.upd b (.rows e i.size xs))) w (w.setRow b (cur0.toList.take (xs.length * i.size) ++ news ++ cur0.toList.drop (xs.length * i.size + news.length)).toArray) := setRow_le hbw hsz2 (dom_of (upd_same _ _ _))
      have hob := ((hall.mono hle (DomOk.refl _ _)).obj e (cur0.toList.take (xs.length * i.size) ++ news ++ cur0.toList.drop (xs.length * i.size + news.length)).toArray (by
        rw [hlenall, Nat.add_mul, ← hRR.len]
        simp only [List.append_assoc]
        rw [← List.append_assoc, List.take_append_of_le_length (by simp; omega)]
        exact List.take_of_length_le (by simp; omega)) (by rw [hlenall]; exact hm))
      obtain ⟨w1, w2, w3⟩ := hR.write (upd_same _ _ _) hbw hsz2 hob
      have hupd : (σ0.upd b (.rows e i.size xs)).upd b (.rows e i.size (xs ++ rs)) = σ0.upd b (.rows e i.size (xs ++ rs)) := by
        funext k; simp only [H.upd]; split <;> rfl
      rw [hupd] at w1 w3
      exact ⟨.sl b (xs ++ rs).length i.size e, _, _, _, .inr ⟨b, hb0, rfl, rfl⟩, hr,
        by rw [hlenall]; exact .sl b _ _ e cap _ (setRow_heap w b cur0 _ e _ hbw) (by rw [hsz2]; exact hc) hroom hcm, w1, w2, w3⟩
    · -- it grows
      have holds' : ∀ (j : Nat) (u' : Value), (cur0.toList.take (xs.length * i.size))[j]? = some u' → w.cell? ((⟨b, 0, none⟩ : Addr).add j) = some u' := by
        intro j u' hj
        rw [addr_add, Nat.zero_add, cell_of_heap hbw]
        rw [List.getElem?_take] at hj
        split at hj <;> first | (simp at hj; exact hj) | (simp at hj; done) | cases hj
      have hr := run_append_grow (P := P) w ty r e i z hu hi hz ⟨b, 0, none⟩ xs.length cap _ holdsRR.len holds' ⟨bs, os, none⟩ rs.length c news hRR.len hnews' (by omega) (by simp only [maxLen] at hm; omega)
        (growslice_fits (by omega) hb)
      have hge := grownCap_ge w (xs.length + rs.length) cap e
      have hcm' := grownCap_le_maxLen w (xs.length + rs.length) cap e hm
      obtain ⟨g1, g2, g3, g4, g5⟩ := grow_new hR (σ0 := σ0) e (Builtin.zeroCells z.cells (grownCap w (xs.length + rs.length) cap e - (xs.length + rs.length))) hall (by rw [hlenall]; exact hm)
        (fun k o hk => by rw [upd_ne]; exact hk; rintro rfl; rw [hb0] at hk; cases hk) (grownCap w (xs.length + rs.length) cap e) (by rw [hlenall]; exact hge) hcm' (by
        rw [Array.size_append, zeroCells_size, List.size_toArray, hall.len, hlenall, hzs, ← Nat.add_mul]; congr 1; omega)
      have hrew : (cur0.toList.take (xs.length * i.size)).toArray ++ news.toArray = (cur0.toList.take (xs.length * i.size) ++ news).toArray := by simp
      rw [hrew, ← hlenall] at hr
      rw [← hlenall] at g2 g3 g4
      exact ⟨_, _, _, _, g1, hr, g2, g3, g4, g5⟩
end
end Go.Ag
