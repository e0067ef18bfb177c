/- A part of the proof: A5. -/
import Derived.Test.YtlchnjgnfomiaaaA4
import Derived.Laws.StructEq
import Derived.Laws.Cover3
import Derived.Laws.BytesString
set_option linter.unusedSimpArgs false
set_option linter.unusedVariables false
namespace Go.Ag
open Go
section
variable {P : Program} {w : World} {D : Nat → Prop} {σ : H}

/-! ### More of two operands: bools, addresses against nil, structs of numbers -/
def isAddr : AV → Option Bool
  | .v (.pointer none) => some false
  | .v (.pointer (some _)) => some true
  | .at .. => some true
  | .elt _ => some true
  | _ => none
theorem isAddr_sound {x : AV} {v : Value} {q : Bool} (h : isAddr x = some q) (hx : VR w D x v) : (q = false ∧ v = .pointer none) ∨ (q = true ∧ ∃ a, v = .pointer (some a)) := by
  cases hx with
  | v x =>
    unfold isAddr at h
    split at h <;> try (cases h; done)
    all_goals (rename_i heq; cases heq)
    · cases h; exact .inl ⟨rfl, rfl⟩
    · cases h; exact .inr ⟨rfl, _, rfl⟩
  | elt cs b o => cases h; exact .inr ⟨rfl, _, rfl⟩
  | «at» b i j sz => cases h; exact .inr ⟨rfl, _, rfl⟩
  | ro => cases h
  | sl => cases h
  | win => cases h
  | mt => cases h
  | agg => cases h
  | tup => cases h

/-- Whole numbers' cells. -/
def ints : List AV → Option (List (IntKind × Int))
  | [] => some []
  | .v (.int k n) :: r => (ints r).map ((k, n) :: ·)
  | _ => none
/-- A struct whose fields are numbers, each in its own cell: their kinds. -/
def tintsL (P : Program) : List Field → Nat → Option (List IntKind)
  | [], _ => some []
  | f :: r, k => if f.offset = k ∧ f.name ≠ "_" then (match P.underlying f.type with
    | some (.int kd) => (tintsL P r (k + 1)).map (kd :: ·)
    | _ => none) else none
def tints (P : Program) (t : TypeId) : Option (List IntKind) :=
  match P.underlying t with
  | some (.struct fs) => if P.stoodInHeld t = true ∨ P.eqGuardType P.depth t = true then none else tintsL P fs.toList 0
  | _ => none
/-- Whether a slice is there, where that is known. -/
def isSome' : AV → Option Bool
  | .v (.slice a _ _) => some a.isSome
  | .ro (_ :: _) => some true
  | .sl .. => some true
  | _ => none
theorem isSome'_sound {x : AV} {v : Value} {q : Bool} (h : isSome' x = some q) (hx : VR w D x v) : ∃ a l c, v = .slice a l c ∧ a.isSome = q := by
  cases hx with
  | v x =>
    unfold isSome' at h
    split at h <;> try (cases h; done)
    all_goals (rename_i heq; cases heq)
    cases h; exact ⟨_, _, _, rfl, rfl⟩
  | ro xs a cap sz vals hsz hm =>
    cases xs with
    | nil => cases h
    | cons y ys =>
      cases h
      obtain ⟨b, o, rfl, _⟩ := hm (by simp)
      exact ⟨_, _, _, rfl, rfl⟩
  | sl => cases h; exact ⟨_, _, _, rfl, rfl⟩
  | elt => cases h
  | «at» => cases h
  | win => cases h
  | mt => cases h
  | agg => cases h
  | tup => cases h

/-- Two operands, of whatever kind: the condition, and the value. -/
def abin (P : Program) (op : BinOp) (ty : TypeId) (x y : AV) : Option (Prop × AV) :=
  match x, y with
  | .v (.bool a), .v (.bool b) =>
    (match P.underlying ty with
    | some .bool => (match op with
      | .eql => some (True, .v (.bool (a == b)))
      | .neq => some (True, .v (.bool (a != b)))
      | _ => none)
    | _ => none)
  | x, .v (.pointer none) =>
    (match P.underlying ty, isAddr x with
    | some (.pointer _), some q => (match op with
      | .eql => some (True, .v (.bool !q))
      | .neq => some (True, .v (.bool q))
      | _ => none)
    | _, _ => none)
  | x, .v (.slice none 0 0) =>
    (match P.underlying ty, isSome' x with
    | some (.slice _), some q => (match op with
      | .eql => some (True, .v (.bool !q))
      | .neq => some (True, .v (.bool q))
      | _ => none)
    | _, _ => none)
  | .agg xs, .agg ys =>
    (match tints P ty, ints xs, ints ys with
    | some ks, some as, some bs => if as.map (·.1) = ks ∧ bs.map (·.1) = ks then (match op with
      | .eql => some (True, .v (.bool (decide (as.map (·.2) = bs.map (·.2)))))
      | .neq => some (True, .v (.bool (!decide (as.map (·.2) = bs.map (·.2)))))
      | _ => none) else none
    | _, _, _ => none)
  | .v a, .v b => (abinV op a b).map fun r => (r.1, .v r.2)
  | _, _ => none

theorem ints_get : ∀ {cs : List AV} {l : List (IntKind × Int)}, ints cs = some l → cs.length = l.length ∧ ∀ (i : Nat) (p : IntKind × Int), l[i]? = some p → cs[i]? = some (.v (.int p.1 p.2))
  | [], l, h => by simp only [ints, Option.some.injEq] at h; subst h; simp
  | c :: r, l, h => by
    unfold ints at h
    split at h <;> try (cases h; done)
    · rename_i heq; cases heq
    · rename_i k n r' heq
      cases heq
      obtain ⟨l', hl, rfl⟩ := Option.map_eq_some_iff.1 h
      obtain ⟨h1, h2⟩ := ints_get hl
      refine ⟨by simp [h1], fun i p hp => ?_⟩
      cases i with
      | zero => simp at hp; subst hp; rfl
      | succ i => simp at hp ⊢; exact h2 i p hp
theorem eqFields_ints (d : Nat) (hd : 0 < d) {xs ys : Array Value} : ∀ (fs : List Field) (k : Nat) (ks : List IntKind) (as bs : List Int), tintsL P fs k = some ks → as.length = ks.length → bs.length = ks.length →
    (∀ i kd a b, ks[i]? = some kd → as[i]? = some a → bs[i]? = some b → xs[k + i]? = some (.int kd a) ∧ ys[k + i]? = some (.int kd b)) →
    (Op.eqFields d xs ys fs).run P w = .ok (decide (as = bs)) w
  | [], k, ks, as, bs, h, ha, hb, hv => by
    simp only [tintsL, Option.some.injEq] at h; subst h
    obtain rfl : as = [] := by simpa using ha
    obtain rfl : bs = [] := by simpa using hb
    simp [Op.eqFields, Sem.run_pure]
  | f :: r, k, ks, as, bs, h, ha, hb, hv => by
    unfold tintsL at h
    split at h <;> try (cases h; done)
    rename_i hf
    split at h <;> try (cases h; done)
    rename_i kd hu
    obtain ⟨ks', hk, rfl⟩ := Option.map_eq_some_iff.1 h
    cases as with
    | nil => simp at ha
    | cons a as =>
    cases bs with
    | nil => simp at hb
    | cons b bs =>
    obtain ⟨h1, h2⟩ := hv 0 kd a b rfl rfl rfl
    obtain ⟨d, rfl⟩ : ∃ e, d = e + 1 := ⟨d - 1, by omega⟩
    have ih := eqFields_ints (d + 1) hd r (k + 1) ks' as bs hk (by simpa using ha) (by simpa using hb) (fun i kd a b g1 g2 g3 => by
      have := hv (i + 1) kd a b (by simpa using g1) (by simpa using g2) (by simpa using g3)
      rw [show k + 1 + i = k + (i + 1) by omega]; exact this)
    have hag : (isAgg f.type).run P w = .ok false w := by
      simp only [isAgg, Sem.run_bind, run_underlying hu, Result.andThen_ok]; rfl
    have p1 : (part f.type xs f.offset).run P w = .ok (.int kd a) w := by
      simp only [part, Sem.run_bind, hag, Result.andThen_ok, Bool.false_eq_true, if_false]
      rw [hf.1, show k = k + 0 from rfl, h1]; rfl
    have p2 : (part f.type ys f.offset).run P w = .ok (.int kd b) w := by
      simp only [part, Sem.run_bind, hag, Result.andThen_ok, Bool.false_eq_true, if_false]
      rw [hf.1, show k = k + 0 from rfl, h2]; rfl
    simp only [Op.eqFields]
    rw [if_pos hf.2]
    simp only [Sem.run_bind, p1, p2, Result.andThen_ok, run_equalIn_int w d f.type kd kd a b hu]
    by_cases hab : a = b
    · subst hab
      simp only [BEq.rfl, Bool.not_true, Bool.false_eq_true, if_false, ih]
      simp
    · simp [hab, Sem.run_pure]

theorem equalIn_bool {ty : TypeId} (hu : P.underlying ty = some .bool) (d : Nat) (a b : Bool) : (Op.equalIn (d + 1) ty (.bool a) (.bool b)).run P w = .ok (a == b) w := by
  simp only [Op.equalIn, Sem.run_bind, run_underlying hu, Result.andThen_ok]; rfl
theorem equalIn_nil {ty e : TypeId} (hu : P.underlying ty = some (.pointer e)) (d : Nat) (q : Option Addr) : (Op.equalIn (d + 1) ty (.pointer q) (.pointer none)).run P w = .ok q.isNone w := by
  cases q <;> (simp only [Op.equalIn, Sem.run_bind, run_underlying hu, Result.andThen_ok]; rfl)

theorem abin_sound {op : BinOp} {ty : TypeId} {x y z : AV} {u v : Value} {c : Prop} (h : abin P op ty x y = some (c, z)) (hc : c) (hx : VR w D x u) (hy : VR w D y v) (ox oy : Operand) :
    ∃ r, (do eqGuard op ty ox oy u v; binOp op ty u v : Sem Value).run P w = .ok r w ∧ VR w D z r := by
  unfold abin at h
  split at h
  · rename_i a b
    cases hx; cases hy
    split at h <;> try (cases h; done)
    rename_i hu
    have hg : ∀ op, (eqGuard op ty ox oy (.bool a) (.bool b)).run P w = .ok () w := by
      intro op; unfold eqGuard; split <;> rfl
    have he : (Op.equal ty (.bool a) (.bool b)).run P w = .ok (a == b) w := equalIn_bool hu 9999 a b
    split at h <;> try (cases h; done)
    all_goals
      cases h
      refine ⟨_, ?_, .v _⟩
      simp only [Sem.run_bind, hg, Result.andThen_ok, binOp, he]
      rfl
  · rename_i x' hnb
    cases hy
    split at h <;> try (cases h; done)
    rename_i e q hu hq
    obtain ⟨p, rfl, hp⟩ : ∃ p, u = .pointer p ∧ p.isNone = !q := by
      rcases isAddr_sound hq hx with ⟨rfl, rfl⟩ | ⟨rfl, a, rfl⟩
      · exact ⟨_, rfl, rfl⟩
      · exact ⟨_, rfl, rfl⟩
    have hg : ∀ op, (eqGuard op ty ox oy (.pointer p) (.pointer none)).run P w = .ok () w := by
      intro op; unfold eqGuard; split <;> rfl
    have he : (Op.equal ty (.pointer p) (.pointer none)).run P w = .ok (!q) w := by rw [← hp]; exact equalIn_nil hu 9999 p
    split at h <;> try (cases h; done)
    · cases h
      refine ⟨.bool (!q), ?_, .v _⟩
      cases p <;> (simp only [Sem.run_bind, hg, Result.andThen_ok, binOp, he]; rfl)
    · cases h
      refine ⟨.bool (!!q), ?_, by rw [Bool.not_not]; exact .v _⟩
      cases p <;> (simp only [Sem.run_bind, hg, Result.andThen_ok, binOp, he]; rfl)
  · rename_i x' hnb
    cases hy
    split at h <;> try (cases h; done)
    rename_i e q hu hq
    obtain ⟨a, l, c', rfl, hp⟩ := isSome'_sound hq hx
    have hg : ∀ op, (eqGuard op ty ox oy (.slice a l c') (.slice none 0 0)).run P w = .ok () w := by
      intro op; unfold eqGuard; split <;> rfl
    have he : (Op.equal ty (.slice a l c') (.slice none 0 0)).run P w = .ok a.isNone w := run_equal_slice_nil w ty e a l c' hu
    have hn : a.isNone = !q := by rw [← hp]; cases a <;> rfl
    rw [hn] at he
    split at h <;> try (cases h; done)
    · cases h
      refine ⟨.bool (!q), ?_, .v _⟩
      simp only [Sem.run_bind, hg, Result.andThen_ok, binOp, he]; rfl
    · cases h
      refine ⟨.bool (!!q), ?_, by rw [Bool.not_not]; exact .v _⟩
      simp only [Sem.run_bind, hg, Result.andThen_ok, binOp, he]; rfl
  · rename_i xs ys
    cases hx with
    | agg _ us hl hone hv =>
    cases hy with
    | agg _ vs hl' hone' hv' =>
    split at h <;> try (cases h; done)
    rename_i ks as bs hk ha hb
    split at h <;> try (cases h; done)
    rename_i hks
    unfold tints at hk
    split at hk <;> try (cases hk; done)
    rename_i fs hu
    split at hk <;> try (cases hk; done)
    rename_i hno
    have hno1 : P.stoodInHeld ty = false := by cases h : P.stoodInHeld ty <;> simp [h] at hno ⊢
    have hno2 : P.eqGuardType P.depth ty = false := by cases h : P.eqGuardType P.depth ty <;> simp [h] at hno ⊢
    have hfo : P.fieldsOf ty = fs := by simp [Program.fieldsOf, hu]
    obtain ⟨a1, a2⟩ := ints_get ha
    obtain ⟨b1, b2⟩ := ints_get hb
    have get : ∀ {xs : List AV} {us : Array Value} {as : List (IntKind × Int)} (_ : xs.length = us.size) (_ : ∀ (i : Nat) (p : IntKind × Int), as[i]? = some p → xs[i]? = some (.v (.int p.1 p.2)))
        (_ : ∀ (i : Nat) (c : AV) (x : Value), xs[i]? = some c → us[i]? = some x → VR w D c x) (i : Nat) (p : IntKind × Int), as[i]? = some p → us[i]? = some (.int p.1 p.2) := by
      intro xs us as hl hc hv i p hp
      have h1 := hc i p hp
      have hlt : i < us.size := by rw [← hl]; exact (List.getElem?_eq_some_iff.1 h1).1
      have h2 : us[i]? = some us[i] := Array.getElem?_eq_getElem hlt
      have h3 := hv i _ _ h1 h2
      rw [h2]; generalize us[i] = z at h3; cases h3; rfl
    have hrun : (Op.equalIn 10000 ty (.agg us) (.agg vs)).run P w = .ok (decide (as.map (·.2) = bs.map (·.2))) w := by
      rw [run_equalIn_struct w 9999 ty us vs (by rw [hfo]; exact hu) hno1, hfo]
      refine eqFields_ints 9999 (by omega) fs.toList 0 ks _ _ hk (by rw [← hks.1]; simp) (by rw [← hks.2]; simp) (fun i kd a b g1 g2 g3 => ?_)
      simp only [List.getElem?_map, Option.map_eq_some_iff] at g2 g3
      obtain ⟨p, hp, rfl⟩ := g2
      obtain ⟨q, hq, rfl⟩ := g3
      have e1 : p.1 = kd := by
        have : (as.map (·.1))[i]? = some p.1 := by simp [hp]
        rw [hks.1, g1] at this; exact (Option.some.inj this).symm
      have e2 : q.1 = kd := by
        have : (bs.map (·.1))[i]? = some q.1 := by simp [hq]
        rw [hks.2, g1] at this; exact (Option.some.inj this).symm
      rw [Nat.zero_add]
      have r1 := get hl a2 hv i p hp
      have r2 := get hl' b2 hv' i q hq
      rw [e1] at r1; rw [e2] at r2
      exact ⟨r1, r2⟩
    have hg := fun op => run_eqGuard_agg w op ty ox oy us vs hno2
    split at h <;> try (cases h; done)
    · cases h
      refine ⟨_, ?_, .v _⟩
      simp only [Sem.run_bind, hg, Result.andThen_ok, run_eql_struct, hrun]
    · cases h
      refine ⟨_, ?_, .v _⟩
      simp only [Sem.run_bind, hg, Result.andThen_ok, run_neq_struct, hrun]
  · rename_i a b _ _ _
    cases hx; cases hy
    obtain ⟨⟨c', r⟩, hr, heq⟩ := Option.map_eq_some_iff.1 h
    cases heq
    exact ⟨r, abinV_sound hr hc ox oy, .v _⟩
  · cases h

def aun (op : UnOp) : AV → Option AV
  | .v (.bool b) => if op = .not then some (.v (.bool !b)) else none
  | .v (.int k n) => match op with
    | .neg => some (.v (.int k (k.wrap (0 - n))))
    | .xor => some (.v (.int k (k.wrap (BitVec.ofInt k.bits (if k.signed then -1 else k.max) ^^^ BitVec.ofInt k.bits n).toNat)))
    | _ => none
  | _ => none
theorem aun_sound {op : UnOp} {x y : AV} {v : Value} (h : aun op x = some y) (hx : VR w D x v) : ∃ u, (Op.unary op v).run P w = .ok u w ∧ VR w D y u := by
  unfold aun at h
  split at h <;> try (cases h; done)
  · cases hx
    split at h <;> try (cases h; done)
    rename_i ho; subst ho; cases h
    exact ⟨_, rfl, .v _⟩
  · cases hx
    split at h <;> try (cases h; done)
    · cases h; exact ⟨_, by simp [Op.unary, Op.intArith], .v _⟩
    · cases h; exact ⟨_, by simp [Op.unary, Op.intBits], .v _⟩

def abytes : List (List AV) → Option (List Int)
  | [] => some []
  | [.v (.int .u8 n)] :: r => (abytes r).map (n :: ·)
  | _ => none
def bstr (bs : List Int) : ByteArray := ⟨(bs.map fun n => UInt8.ofNat n.toNat).toArray⟩
def isBytes (P : Program) (src : TypeId) : Bool :=
  match P.underlying src with
  | some (.slice e) => (match P.underlying e with | some (.int .u8) => true | _ => false)
  | _ => false
def aconv (P : Program) (src dst : TypeId) : AV → Option AV
  | .v (.int _ n) => match P.underlying dst with
    | some (.int k') => some (.v (.int k' (k'.wrap n)))
    | _ => none
  | .ro xs => match P.underlying dst with
    | some .string => if isBytes P src then (abytes xs).map fun bs => .v (.string (bstr bs)) else none
    | _ => none
  | .v (.slice none _ _) => match P.underlying dst with
    | some .string => if isBytes P src then some (.v (.string (bstr []))) else none
    | _ => none
  | _ => none
theorem abytes_get : ∀ {xs : List (List AV)} {l : List Int}, abytes xs = some l → xs.length = l.length ∧ ∀ (i : Nat) (n : Int), l[i]? = some n → xs[i]? = some [.v (.int .u8 n)]
  | [], l, h => by simp only [abytes, Option.some.injEq] at h; subst h; simp
  | c :: r, l, h => by
    unfold abytes at h
    split at h <;> try (cases h; done)
    · rename_i heq; cases heq
    · rename_i n r' heq
      cases heq
      obtain ⟨l', hl, rfl⟩ := Option.map_eq_some_iff.1 h
      obtain ⟨h1, h2⟩ := abytes_get hl
      refine ⟨by simp [h1], fun i p hp => ?_⟩
      cases i with
      | zero => simp at hp; subst hp; rfl
      | succ i => simp at hp ⊢; exact h2 i p hp
theorem foldl_push : ∀ (ns : List Int) (s : ByteArray), ns.foldl (fun r n => r.push (UInt8.ofNat n.toNat)) s = ⟨s.data ++ (ns.map fun n => UInt8.ofNat n.toNat).toArray⟩
  | [], s => by simp
  | n :: ns, s => by
    rw [List.foldl_cons, foldl_push ns]
    simp [ByteArray.push]
theorem loadCells_ok {b : Nat} : ∀ (vs : List Value) (o i : Nat) (acc : Array Value), (∀ j v, vs[j]? = some v → w.cell? ⟨b, o + (i + j), none⟩ = some v) →
    (loadCellsFrom ⟨b, o, none⟩ i vs.length acc).run P w = .ok (acc ++ vs.toArray) w
  | [], o, i, acc, h => by simp [loadCellsFrom, Sem.run_pure]
  | v :: vs, o, i, acc, h => by
    have h0 := h 0 v rfl
    simp only [List.length_cons, loadCellsFrom, Sem.run_bind]
    rw [addr_add, run_load, show o + i = o + (i + 0) from rfl, h0]
    simp only [Result.andThen_ok]
    rw [loadCells_ok vs o (i + 1) _ (fun j v' hj => by rw [show o + (i + 1 + j) = o + (i + (j + 1)) by omega]; exact h (j + 1) v' (by simpa using hj))]
    simp
theorem isBytes_spec {src : TypeId} (h : isBytes P src = true) : ∃ e, P.underlying src = some (.slice e) ∧ P.underlying e = some (.int .u8) := by
  unfold isBytes at h
  split at h <;> try (cases h; done)
  rename_i e he
  split at h <;> try (cases h; done)
  exact ⟨e, he, by assumption⟩
theorem aconv_sound {src dst : TypeId} {x y : AV} {v : Value} (hs : (P.underlying src).isSome = true) (h : aconv P src dst x = some y) (hx : VR w D x v) : ∃ u, (convert src dst v).run P w = .ok u w ∧ VR w D y u := by
  unfold aconv at h
  split at h <;> try (cases h; done)
  · rename_i k n
    cases hx
    split at h <;> try (cases h; done)
    rename_i k' hd
    cases h
    obtain ⟨d, hd'⟩ := Option.isSome_iff_exists.1 hs
    refine ⟨_, ?_, .v _⟩
    simp only [convert, Sem.run_bind, run_underlying hd', run_underlying hd, Result.andThen_ok]
    cases d <;> rfl
  · rename_i xs
    cases hx with
    | ro _ a cap sz vals hsz hm hv hlen hcap =>
    split at h <;> try (cases h; done)
    rename_i hd
    split at h <;> try (cases h; done)
    rename_i hb
    obtain ⟨e, he, he'⟩ := isBytes_spec hb
    obtain ⟨bs, hbs, rfl⟩ := Option.map_eq_some_iff.1 h
    obtain ⟨hl, hg⟩ := abytes_get hbs
    refine ⟨_, ?_, .v _⟩
    rw [run_convert_bytes_string w src dst e a _ _ he he' hd]
    cases xs with
    | nil =>
      obtain rfl : bs = [] := by simpa using hl.symm
      cases a with
      | none => simp [Conv.bytesToString, Sem.run_pure, bstr]; rfl
      | some a =>
        rw [run_bytesToString w a _ cap [] (by simp [loadCells, loadCellsFrom, Sem.run_pure])]
        simp [bstr]; rfl
    | cons y ys =>
      obtain ⟨b, o, rfl, hD, hbz, hc⟩ := hm (by simp)
      rw [run_bytesToString w _ _ cap bs ?_]
      · rw [foldl_push]; simp [bstr]
      · have := loadCells_ok (P := P) (w := w) (b := b) (bs.map (Value.int .u8)) o 0 #[] (fun j v' hj => by
          simp only [List.getElem?_map, Option.map_eq_some_iff] at hj
          obtain ⟨n, hn, rfl⟩ := hj
          have h1 := hg j n hn
          have hs1 := (hsz j _ h1).1
          have h2 := hc j _ 0 h1 (by simp)
          have h3 := hv j _ 0 _ h1 rfl
          simp at hs1
          subst hs1
          rw [Nat.mul_one, Nat.add_zero] at h2
          rw [Nat.zero_add, h2]
          generalize vals j 0 = z at h3; cases h3; rfl)
        rw [loadCells, hl]
        simpa using this
  · rename_i l c
    cases hx
    split at h <;> try (cases h; done)
    rename_i hd
    split at h <;> try (cases h; done)
    rename_i hb
    obtain ⟨e, he, he'⟩ := isBytes_spec hb
    cases h
    refine ⟨_, ?_, .v _⟩
    rw [run_convert_bytes_string w src dst e none _ _ he he' hd]
    simp [Conv.bytesToString, Sem.run_pure, bstr]; rfl

/-- The exact value, where there is one. -/
def toV : AV → Option Value
  | .v x => some x
  | .agg cs => (cs.mapM fun (c : AV) => match c with | AV.v x => some x | _ => none).map fun (l : List Value) => Value.agg l.toArray
  | _ => none
theorem toV_sound {x : AV} {u v : Value} (h : toV x = some u) (hx : VR w D x v) : v = u := by
  cases hx with
  | v x => simpa [toV] using h
  | agg cs vs hl hone hv =>
    simp only [toV] at h
    obtain ⟨l, hl', rfl⟩ := Option.map_eq_some_iff.1 h
    congr 1
    have key : ∀ (cs : List AV) (l : List Value) (vs : List Value), (cs.mapM fun c => match c with | AV.v x => some x | _ => none) = some l → cs.length = vs.length →
        (∀ (i : Nat) (c : AV) (x : Value), cs[i]? = some c → vs[i]? = some x → VR w D c x) → vs = l := by
      intro cs
      induction cs with
      | nil => intro l vs h hl _; simp at h; subst h; simpa using hl.symm
      | cons c cs ih =>
        intro l vs h hl hv
        cases vs with
        | nil => simp at hl
        | cons v vs =>
          simp only [List.mapM_cons, Option.bind_eq_bind, Option.pure_def] at h
          obtain ⟨x, hx, h⟩ := Option.bind_eq_some_iff.1 h
          obtain ⟨l', hl', h⟩ := Option.bind_eq_some_iff.1 h
          cases h
          have h0 := hv 0 c v rfl rfl
          split at hx <;> try (cases hx; done)
          cases hx
          cases h0
          rw [ih l' vs hl' (by simpa using hl) (fun i a b ha hb => hv (i + 1) a b (by simpa using ha) (by simpa using hb))]
    have := key cs l vs.toList hl' (by simpa using hl) (fun i c x h1 h2 => hv i c x h1 (by simpa using h2))
    rw [← this]
  | ro => cases h
  | elt => cases h
  | sl => cases h
  | win => cases h
  | «at» => cases h
  | mt => cases h
  | tup => cases h

def afield (P : Program) (ty : TypeId) (f : Nat) : AV → Option AV
  | .agg cs => match P.underlying ty with
    | some (.struct fs) => (match fs[f]? with
      | some fl => (match tsz P fl.type with
        | some (n, ag) => apack ag n (cs.drop fl.offset)
        | none => none)
      | none => none)
    | _ => none
  | _ => none
theorem afield_val_sound {ty : TypeId} {f : Nat} {x y : AV} {v : Value} (h : afield P ty f x = some y) (hx : VR w D x v) : ∃ u, (Instr.field ty v f).run P w = .ok u w ∧ VR w D y u := by
  unfold afield at h
  split at h <;> try (cases h; done)
  rename_i cs
  cases hx with
  | agg _ vs hl hone hv =>
  split at h <;> try (cases h; done)
  rename_i fs hu
  split at h <;> try (cases h; done)
  rename_i fl hfl
  split at h <;> try (cases h; done)
  rename_i n ag ht
  obtain ⟨i, d, hi, hu', hn, hag⟩ := tsz_spec (w := w) ht
  have hpart : (part fl.type vs fl.offset).run P w = if ag then .ok (.agg (vs.extract fl.offset (fl.offset + n))) w else (match vs[fl.offset]? with | some v => .ok v w | none => .halt (.stuck "part: no such cell") w) := by
    simp only [part, Sem.run_bind, hag, Result.andThen_ok]
    cases ag
    · simp only [Bool.false_eq_true, if_false]
      cases vs[fl.offset]? <;> rfl
    · simp only [if_true, Sem.run_bind, run_sizeOf hi, Result.andThen_ok, hn]
      rfl
  unfold apack at h
  cases ag with
  | true =>
    simp only [if_true] at h hpart
    split at h <;> try (cases h; done)
    rename_i hle
    cases h
    refine ⟨.agg (vs.extract fl.offset (fl.offset + n)), by simp [Instr.field, run_underlying hu, hfl, asAgg, hpart], ?_⟩
    simp only [List.length_drop] at hle
    refine .agg _ _ (by simp; omega) (fun c hc => hone c (List.mem_of_mem_drop (List.mem_of_mem_take hc))) (fun j c u hj hu2 => ?_)
    rw [List.getElem?_take] at hj
    split at hj <;> try (cases hj; done)
    rename_i hjn
    rw [List.getElem?_drop] at hj
    rw [Array.getElem?_extract] at hu2
    split at hu2 <;> try (cases hu2; done)
    exact hv _ _ _ hj hu2
  | false =>
    simp only [Bool.false_eq_true, if_false] at h hpart
    rw [List.getElem?_drop, Nat.add_zero] at h
    have hlt : fl.offset < vs.size := by rw [← hl]; exact (List.getElem?_eq_some_iff.1 h).1
    have hvs : vs[fl.offset]? = some vs[fl.offset] := Array.getElem?_eq_getElem hlt
    refine ⟨vs[fl.offset], by simp [Instr.field, run_underlying hu, hfl, asAgg, hpart, hvs], hv _ _ _ h hvs⟩

/-- A part of a string, or of an array that is a value. -/
def aidx (P : Program) (ty : TypeId) : AV → AV → Option (Prop × AV)
  | .v (.string s), .v (.int _ n) => match P.underlying ty with
    | some .string => some (0 ≤ n ∧ n < s.size, .v (.int .u8 ((s.data.getD n.toNat 0).toNat)))
    | _ => none
  | .agg cs, .v (.int _ n) => match P.underlying ty with
    | some (.array m e) => (match tsz P e with
      | some (q, ag) => (apack ag q (cs.drop (n.toNat * q))).map fun z => (0 ≤ n ∧ n < m, z)
      | none => none)
    | _ => none
  | _, _ => none
theorem part_sound {cs : List AV} {vs : Array Value} {y : AV} {ty : TypeId} {n off : Nat} {ag : Bool} (ht : tsz P ty = some (n, ag)) (h : apack ag n (cs.drop off) = some y) (hx : VR w D (.agg cs) (.agg vs)) :
    ∃ u, (part ty vs off).run P w = .ok u w ∧ VR w D y u := by
  cases hx with
  | agg _ vs hl hone hv =>
  obtain ⟨i, d, hi, hu', hn, hag⟩ := tsz_spec (w := w) ht
  have hpart : (part ty vs off).run P w = if ag then .ok (.agg (vs.extract off (off + n))) w else (match vs[off]? with | some v => .ok v w | none => .halt (.stuck "part: no such cell") w) := by
    simp only [part, Sem.run_bind, hag, Result.andThen_ok]
    cases ag
    · simp only [Bool.false_eq_true, if_false]
      cases vs[off]? <;> rfl
    · simp only [if_true, Sem.run_bind, run_sizeOf hi, Result.andThen_ok, hn]
      rfl
  unfold apack at h
  cases ag with
  | true =>
    simp only [if_true] at h hpart
    split at h <;> try (cases h; done)
    rename_i hle
    cases h
    refine ⟨_, hpart, ?_⟩
    simp only [List.length_drop] at hle
    refine .agg _ _ (by simp; omega) (fun c hc => hone c (List.mem_of_mem_drop (List.mem_of_mem_take hc))) (fun j c u hj hu2 => ?_)
    rw [List.getElem?_take] at hj
    split at hj <;> try (cases hj; done)
    rw [List.getElem?_drop] at hj
    rw [Array.getElem?_extract] at hu2
    split at hu2 <;> try (cases hu2; done)
    exact hv _ _ _ hj hu2
  | false =>
    simp only [Bool.false_eq_true, if_false] at h hpart
    rw [List.getElem?_drop, Nat.add_zero] at h
    have hlt : off < vs.size := by rw [← hl]; exact (List.getElem?_eq_some_iff.1 h).1
    have hvs : vs[off]? = some vs[off] := Array.getElem?_eq_getElem hlt
    rw [hvs] at hpart
    exact ⟨vs[off], hpart, hv _ _ _ h hvs⟩
theorem aidx_sound {ty : TypeId} {x k z : AV} {u v : Value} {c : Prop} (h : aidx P ty x k = some (c, z)) (hc : c) (hx : VR w D x u) (hk : VR w D k v) :
    ∃ r, (Instr.index ty u v).run P w = .ok r w ∧ VR w D z r := by
  unfold aidx at h
  split at h <;> try (cases h; done)
  · rename_i s kd n
    cases hx; cases hk
    split at h <;> try (cases h; done)
    rename_i hu
    cases h
    obtain ⟨h0, hlt⟩ := hc
    obtain ⟨n, rfl⟩ := Int.eq_ofNat_of_zero_le h0
    have hn : n < s.size := by omega
    refine ⟨_, ?_, .v _⟩
    simp only [Instr.index, asIntOf, Sem.run_bind, Sem.run_pure, Result.andThen_ok, run_underlying hu]
    rw [if_pos h0, Int.toNat_natCast, getElem?_pos s n hn]
    simp only [Sem.run_pure]
    have : s.data[n]? = some s[n] := by rw [Array.getElem?_eq_getElem hn]; rfl
    simp [this]
  · rename_i cs kd n
    cases hk
    split at h <;> try (cases h; done)
    rename_i m e hu
    split at h <;> try (cases h; done)
    rename_i q ag ht
    obtain ⟨z', hz, heq⟩ := Option.map_eq_some_iff.1 h
    cases heq
    generalize ha : AV.agg cs = xa at hx
    cases hx with
    | agg _ vs hl hone hv =>
      cases ha
      obtain ⟨r, h1, h2⟩ := part_sound ht hz (.agg cs vs hl hone hv)
      obtain ⟨i, d, hi, hu', hn, hag⟩ := tsz_spec (w := w) ht
      refine ⟨r, ?_, h2⟩
      simp only [Instr.index, asIntOf, Sem.run_bind, Sem.run_pure, Result.andThen_ok, run_underlying hu]
      rw [if_pos hc]
      simp only [Sem.run_bind, run_sizeOf hi, Result.andThen_ok, hn]
      exact h1
    | _ => cases ha

/-! ### Slices of slices -/
def aslice (x : AV) (l h : Nat) : Option (Nat × AV) :=   -- how long it is; the part
  match x with
  | .ro xs => some (xs.length, .ro ((xs.take h).drop l))
  | .sl b n sz e => some (n, if l = 0 then .sl b h sz e else .win b l (h - l) sz)
  | .win b off n sz => some (n, .win b (off + l) (h - l) sz)
  | .v (.slice none 0 0) => some (0, .v (.slice none 0 0))
  | _ => none
end
end Go.Ag
