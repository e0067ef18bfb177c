/- A part of the proof: A3. -/
import Derived.Test.YtlchnjgnfomiaaaA2
set_option linter.unusedSimpArgs false
set_option linter.unusedVariables false
namespace Go.Ag
open Go
section
variable {P : Program} {w : World} {D : Nat → Prop} {σ : H}

/-- A value of the text as an abstract one. -/
def cst : Value → AV
  | .agg cs => if cs.toList.all Value.oneCell' then .agg (cs.toList.map .v) else .v (.agg cs)
  | x => .v x
theorem cst_sound (x : Value) : VR w D (cst x) x := by
  unfold cst
  split
  · rename_i cs
    split
    · rename_i h
      refine .agg _ _ (by simp) (fun c hc => ?_) (fun i c x hc hx => ?_)
      · obtain ⟨y, hy, rfl⟩ := List.mem_map.1 hc
        exact List.all_eq_true.1 h y hy
      · simp only [List.getElem?_map, Array.getElem?_toList, hx, Option.map_some, Option.some.injEq] at hc
        subst hc; exact .v _
    · exact .v _
  · exact .v _

def aeval (t : T) : Operand → Option AV
  | .tmp i => t.get i
  | .const v => some (cst v)
  | .global g => some (.v (.pointer (some ⟨g, 0, none⟩)))
  | .func f => some (.v (.func (.func f) #[] #[]))
theorem aeval_sound {t : T} {a : Act} {x : Operand} {y : AV} (h : aeval t x = some y) (ht : TR t a.tmps w D) : VR w D y (a.eval x) := by
  cases x with
  | tmp i =>
    obtain ⟨v, h1, h2⟩ := ht i y h
    have : a.eval (.tmp i) = v := by simp [Act.eval, h1]
    rw [this]; exact h2
  | const v => simp only [aeval, Option.some.injEq] at h; subst h; exact cst_sound v
  | global g => simp only [aeval, Option.some.injEq] at h; subst h; exact .v _
  | func f => simp only [aeval, Option.some.injEq] at h; subst h; exact .v _

/-- An address, n cells on. -/
def padd (x : AV) (n : Nat) : Option AV :=
  match x with
  | .v (.pointer (some ⟨b, o, none⟩)) => some (.v (.pointer (some ⟨b, o + n, none⟩)))
  | .at b i j sz => some (.at b i (j + n) sz)
  | .elt cs => some (.elt (cs.drop n))
  | _ => none
theorem addr_add (b o n : Nat) : (⟨b, o, none⟩ : Addr).add n = ⟨b, o + n, none⟩ := by unfold Addr.add; split <;> simp_all
theorem padd_sound {x y : AV} {n : Nat} {v : Value} (h : padd x n = some y) (hx : VR w D x v) :
    ∃ b o, v = .pointer (some ⟨b, o, none⟩) ∧ VR w D y (.pointer (some ⟨b, o + n, none⟩)) := by
  cases hx with
  | v x =>
    unfold padd at h
    split at h <;> try (cases h; done)
    · rename_i b o heq; cases heq; cases h; exact ⟨b, o, rfl, .v _⟩
    · rename_i heq; cases heq
    · rename_i heq; cases heq
  | «at» b i j sz => simp only [padd, Option.some.injEq] at h; subst h; exact ⟨b, _, rfl, by rw [Nat.add_assoc]; exact .at ..⟩
  | elt cs b o vals hD hb hone hm hv =>
    simp only [padd, Option.some.injEq] at h; subst h
    refine ⟨b, o, rfl, .elt _ b (o + n) (fun j => vals (n + j)) hD hb (fun c hc => hone c (List.mem_of_mem_drop hc)) (fun j hj => ?_) (fun j c hj => ?_)⟩
    · rw [Nat.add_assoc]; exact hm _ (by simp at hj; omega)
    · rw [List.getElem?_drop] at hj; exact hv _ _ hj
  | ro => cases h
  | sl => cases h
  | win => cases h
  | mt => cases h
  | agg => cases h
  | tup => cases h

/-- Where a struct's field stands. -/
def tfoff (P : Program) (s : TypeId) (f : Nat) : Option Nat :=
  match P.underlying s with
  | some (.struct fs) => (match fs[f]? with
    | some fl => (match P.info? fl.type with
      | some i => if i.size = 0 then none else some fl.offset
      | none => none)
    | none => none)
  | _ => none
theorem afield_sound {s : TypeId} {f n : Nat} {x y : AV} {v : Value} (hf : tfoff P s f = some n) (h : padd x n = some y) (hx : VR w D x v) :
    ∃ u, (Instr.fieldAt s v f).run P w = .ok u w ∧ VR w D y u := by
  obtain ⟨b, o, rfl, hy⟩ := padd_sound h hx
  unfold tfoff at hf
  split at hf <;> try (cases hf; done)
  rename_i fs hu
  split at hf <;> try (cases hf; done)
  rename_i fl hfl
  split at hf <;> try (cases hf; done)
  rename_i i hi
  split at hf <;> try (cases hf; done)
  rename_i hz
  cases hf
  refine ⟨_, ?_, hy⟩
  simp only [Instr.fieldAt, Instr.sureAddr, Sem.run_bind, run_underlying hu, Result.andThen_ok, hfl, Sem.run_pure, fieldPlace, run_sizeOf hi]
  rw [if_neg hz]
  simp only [Sem.run_pure, Result.andThen_ok, addr_add]

/-- An element's cells of a slice or an array; how many an array has. -/
def tel (P : Program) (t : TypeId) : Option (Nat × Option Nat) :=
  match P.underlying t with
  | some (.slice e) => (P.info? e).map fun i => (i.size, none)
  | some (.array n e) => (P.info? e).map fun i => (i.size, some n)
  | _ => none

/-- The address of element k, and the condition under which it is one. -/
def aindex (P : Program) (ty : TypeId) (x : AV) (k : Nat) (K : AV → Prop) : Prop :=
  match tel P ty with
  | some (esz, none) => (match x with
    | .ro xs => k < xs.length ∧ ∀ r, xs[k]? = some r → r.length = esz ∧ K (.elt r)
    | .sl b len sz _ => k < len ∧ sz = esz ∧ K (.at b k 0 sz)
    | .win b off len sz => k < len ∧ sz = esz ∧ K (.at b (off + k) 0 sz)
    | _ => False)
  | some (esz, some n) => (match padd x (k * esz) with
    | some y => k < n ∧ K y
    | none => False)
  | none => False

theorem aindex_sound {ty : TypeId} {x : AV} {v : Value} {k : Nat} {kd : IntKind} {K : AV → Prop} (h : aindex P ty x k K) (hx : VR w D x v) :
    ∃ y u, K y ∧ VR w D y u ∧ (Instr.indexAt ty v (.int kd (k : Int))).run P w = .ok u w := by
  unfold aindex at h
  split at h
  · rename_i esz ht
    unfold tel at ht
    split at ht <;> try (cases ht; done)
    · rename_i e hu
      obtain ⟨i, hi, heq⟩ := Option.map_eq_some_iff.1 ht
      cases heq
      have go : ∀ (b o len cap : Nat), k < len → (Instr.indexAt ty (.slice (some ⟨b, o, none⟩) len cap) (.int kd (k : Int))).run P w = .ok (.pointer (some ⟨b, o + k * i.size, none⟩)) w := by
        intro b o len cap hk
        simp only [Instr.indexAt, asIntOf, Sem.run_bind, Sem.run_pure, Result.andThen_ok, run_underlying hu, run_sizeOf hi]
        rw [if_pos ⟨by omega, by omega⟩]
        simp [run_sizeOf hi, addr_add]
      cases hx with
      | ro xs a cap sz vals hsz hm hv hlen hcap =>
        obtain ⟨hk, hK⟩ := h
        have hr := List.getElem?_eq_getElem hk
        obtain ⟨hrl, hKr⟩ := hK _ hr
        obtain ⟨hrs, hr1⟩ := hsz _ _ hr
        obtain ⟨b, o, rfl, hD, hb, hc⟩ := hm (by intro he; subst he; simp at hk)
        refine ⟨_, _, hKr, ?_, go b o xs.length cap hk⟩
        rw [← hrl, hrs]
        refine .elt _ b _ (fun j => vals k j) hD hb hr1 (fun j hj => ?_) (fun j c hj => hv _ _ _ _ hr hj)
        rw [Nat.add_assoc]; exact hc _ _ _ hr hj
      | sl b len sz e' cap cur hb hc hl hcm =>
        obtain ⟨hk, hs, hK⟩ := h
        refine ⟨_, _, hK, ?_, go b 0 len cap hk⟩
        rw [← hs, Nat.zero_add]
        exact .at b k 0 sz
      | win b off len sz cap a hl ha =>
        obtain ⟨hk, hs, hK⟩ := h
        obtain rfl := ha (by omega)
        refine ⟨_, _, hK, ?_, go b _ len cap hk⟩
        rw [← hs, ← Nat.add_mul]
        exact .at b (off + k) 0 sz
      | v => exact h.elim
      | elt => exact h.elim
      | «at» => exact h.elim
      | mt => exact h.elim
      | agg => exact h.elim
      | tup => exact h.elim
    · rename_i n e hu
      obtain ⟨i, hi, heq⟩ := Option.map_eq_some_iff.1 ht
      cases heq
  · rename_i esz n ht
    unfold tel at ht
    split at ht <;> try (cases ht; done)
    · obtain ⟨i, hi, heq⟩ := Option.map_eq_some_iff.1 ht
      cases heq
    rename_i n' e hu
    obtain ⟨i, hi, heq⟩ := Option.map_eq_some_iff.1 ht
    cases heq
    split at h
    · rename_i y hy
      obtain ⟨hk, hK⟩ := h
      obtain ⟨b, o, rfl, hv⟩ := padd_sound hy hx
      refine ⟨y, _, hK, hv, ?_⟩
      simp only [Instr.indexAt, asIntOf, Sem.run_bind, Sem.run_pure, Result.andThen_ok, run_underlying hu, Instr.sureAddr]
      rw [if_pos ⟨by omega, by omega⟩]
      simp [run_sizeOf hi, addr_add]
    · exact h.elim
  · exact h.elim

def alen : AV → Option Int
  | .ro xs => some xs.length
  | .sl _ n _ _ => some n
  | .win _ _ n _ => some n
  | .mt => some 0
  | .v (.slice _ n _) => some n
  | .v (.string s) => some s.size
  | _ => none
/-- A type of slices or strings. -/
def tlen (P : Program) (t : TypeId) : Bool :=
  match P.underlying t with
  | some (.slice _) => true
  | some .string => true
  | _ => false
theorem alen_sound {ty : TypeId} {x : AV} {v : Value} {n : Int} (ht : P.underlying ty = some .string ∨ ∃ e, P.underlying ty = some (.slice e)) (h : alen x = some n) (hx : VR w D x v)
    (hk : (P.underlying ty = some .string) ↔ ∃ s, v = .string s) (r : TypeId) : (Builtin.len_ #[ty] r #[v]).run P w = .ok (.int .i64 n) w := by
  rcases ht with ht | ⟨e, ht⟩
  · obtain ⟨s, rfl⟩ := hk.1 ht
    cases hx
    simp only [alen, Option.some.injEq] at h
    subst h
    simp [Builtin.len_, run_underlying ht, goInt]
  · have hns : ∀ s, v ≠ .string s := fun s hs => by rw [hk.2 ⟨s, hs⟩] at ht; cases ht
    cases hx with
    | v x =>
      unfold alen at h
      split at h <;> try (cases h; done)
      all_goals (first | (rename_i heq; cases heq; done) | skip)
      · rename_i a n' c heq; cases heq; cases h; simp [Builtin.len_, run_underlying ht, goInt]
      · rename_i s heq; cases heq; exact absurd rfl (hns s)
    | ro => cases h; simp [Builtin.len_, run_underlying ht, goInt]
    | sl => cases h; simp [Builtin.len_, run_underlying ht, goInt]
    | win => cases h; simp [Builtin.len_, run_underlying ht, goInt]
    | mt => cases h; simp [Builtin.len_, run_underlying ht, goInt]
    | elt => cases h
    | «at» => cases h
    | agg => cases h
    | tup => cases h

/-- Two operands' value, and under which condition there is one. -/
def abinV (op : BinOp) : Value → Value → Option (Prop × Value)
  | .int k a, .int k' b =>
    if k = k' ∨ op = .shl ∨ op = .shr then
      match op with
      | .add => some (True, .int k (k.wrap (a + b)))
      | .sub => some (True, .int k (k.wrap (a - b)))
      | .mul => some (True, .int k (k.wrap (a * b)))
      | .quo => some (b ≠ 0, .int k (k.wrap (a.tdiv b)))
      | .rem => some (b ≠ 0, .int k (a.tmod b))
      | .and => some (True, .int k (k.wrap (BitVec.ofInt k.bits a &&& BitVec.ofInt k.bits b).toNat))
      | .or => some (True, .int k (k.wrap (BitVec.ofInt k.bits a ||| BitVec.ofInt k.bits b).toNat))
      | .xor => some (True, .int k (k.wrap (BitVec.ofInt k.bits a ^^^ BitVec.ofInt k.bits b).toNat))
      | .andNot => some (True, .int k (k.wrap (BitVec.ofInt k.bits a &&& ~~~ BitVec.ofInt k.bits b).toNat))
      | .shl => some (0 ≤ b, .int k (k.wrap (a * 2 ^ (min b.toNat k.bits))))
      | .shr => some (0 ≤ b, .int k (a.fdiv (2 ^ (min b.toNat k.bits))))
      | .eql => some (True, .bool (a == b))
      | .neq => some (True, .bool (a != b))
      | .lss => some (True, .bool (decide (a < b)))
      | .leq => some (True, .bool (decide (a ≤ b)))
      | .gtr => some (True, .bool (decide (a > b)))
      | .geq => some (True, .bool (decide (a ≥ b)))
    else none
  | .string a, .string b =>
    match op with
    | .add => some (a.size + b.size ≤ 9223372036854775807, .string (a ++ b))
    | .eql => some (True, .bool (a.toList == b.toList))
    | .neq => some (True, .bool (!(a.toList == b.toList)))
    | _ => none
  | _, _ => none

theorem abinV_sound {op : BinOp} {ty : TypeId} {x y v : Value} {c : Prop} (h : abinV op x y = some (c, v)) (hc : c) (ox oy : Operand) :
    (do eqGuard op ty ox oy x y; binOp op ty x y : Sem Value).run P w = .ok v w := by
  unfold abinV at h
  split at h
  · rename_i k a k' b
    split at h <;> try (cases h; done)
    rename_i hk
    have hg : (eqGuard op ty ox oy (.int k a) (.int k' b)).run P w = .ok () w := by
      unfold eqGuard; split <;> rfl
    simp only [Sem.run_bind, hg, Result.andThen_ok]
    have shifts : ∀ op', (op' = .shl ∨ op' = .shr) → ¬ b < 0 → (binOp op' ty (.int k a) (.int k' b)).run P w = .ok (.int k (if op' = .shl then k.wrap (a * 2 ^ (min b.toNat k.bits)) else a.fdiv (2 ^ (min b.toNat k.bits)))) w := by
      intro op' ho hb
      rcases ho with rfl | rfl <;> (simp only [binOp, Op.shift]; rw [if_neg hb]; simp)
    rcases hk with rfl | rfl | rfl
    · cases op <;> simp only [Option.some.injEq, Prod.mk.injEq] at h <;> obtain ⟨rfl, rfl⟩ := h
      all_goals (first
        | (simp [binOp, Op.intArith]; done)
        | (simp [binOp, Op.intBits]; done)
        | (simp [binOp, Op.intCmp]; done)
        | (simp [binOp, Op.intDiv, hc]; done)
        | (rw [shifts _ (by simp) (by omega)]; simp; done))
    · simp only [Option.some.injEq, Prod.mk.injEq] at h; obtain ⟨rfl, rfl⟩ := h
      rw [shifts _ (by simp) (by omega)]; simp
    · simp only [Option.some.injEq, Prod.mk.injEq] at h; obtain ⟨rfl, rfl⟩ := h
      rw [shifts _ (by simp) (by omega)]; simp
  · rename_i a b
    have hg : (eqGuard op ty ox oy (.string a) (.string b)).run P w = .ok () w := by
      unfold eqGuard; split <;> rfl
    simp only [Sem.run_bind, hg, Result.andThen_ok]
    split at h <;> try (cases h; done)
    all_goals (simp only [Option.some.injEq, Prod.mk.injEq] at h; obtain ⟨rfl, rfl⟩ := h)
    · simp only [binOp, Op.stringOp]
      rw [if_neg (by simp [IntKind.max, IntKind.bits, IntKind.signed]; omega)]
      rfl
    · simp [binOp, Op.stringOp]
    · simp [binOp, Op.stringOp]
  · cases h
end
end Go.Ag
