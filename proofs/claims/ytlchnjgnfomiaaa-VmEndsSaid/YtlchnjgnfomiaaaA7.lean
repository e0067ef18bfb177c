/- A part of the proof: A7. -/
import Derived.Test.YtlchnjgnfomiaaaA6
set_option linter.unusedSimpArgs false
set_option linter.unusedVariables false
namespace Go.Ag
open Go

inductive AEnd where
  | ret (y : AV)
  | pan (v : Value)

def EndR (w : World) (D : Nat → Prop) : AEnd → Ending → Prop
  | .ret y, .returned v => VR w D y v
  | .pan v, .panicked ch => ch = [{ v := v, recovered := false }]
  | _, _ => False

def Ent (P : Program) (f : FuncId) : Prop := ∀ args w, (callFunc f args).run P w = .ok (.enter f args) w

/-- Arguments. -/
structure AR (w : World) (D : Nat → Prop) (as : List AV) (vs : Array Value) : Prop where
  len : as.length = vs.size
  rel : ∀ (i : Nat) (c : AV) (x : Value), as[i]? = some c → vs[i]? = some x → VR w D c x

/-- A call, abstractly: from every world that fits. -/
def ACalls (P : Program) (f : FuncId) (as : List AV) (σ : H) (R : AEnd → H → Prop) : Prop :=
  Ent P f ∧ ∀ (vs : Array Value) (w : World), AR w (dom σ) as vs → HR σ w → Calls P f vs w fun e w' =>
    ∃ ae σ', R ae σ' ∧ EndR w' (dom σ') ae e ∧ HR σ' w' ∧ Le (dom σ) w w' ∧ DomOk w (dom σ) (dom σ')

theorem ACalls.mono {P : Program} {f : FuncId} {as : List AV} {σ : H} {R R' : AEnd → H → Prop} (h : ACalls P f as σ R) (hr : ∀ e σ', R e σ' → R' e σ') : ACalls P f as σ R' :=
  ⟨h.1, fun vs w ha hR => (h.2 vs w ha hR).mono fun _ _ ⟨ae, σ', h1, h2⟩ => ⟨ae, σ', hr _ _ h1, h2⟩⟩

def endK (K : AV → H → Prop) (Kp : Value → H → Prop) : AEnd → H → Prop
  | .ret y, σ => K y σ
  | .pan v, σ => Kp v σ

def one (t : T) (x : Operand) (K : AV → Prop) : Prop :=
  match aeval t x with
  | some y => K y
  | none => False
def oneO (x : Option AV) (K : AV → Prop) : Prop :=
  match x with
  | some y => K y
  | none => False
def pickK (q : Bool) (x y : Option AV) (K : AV → Prop) : Prop :=
  match x, y with
  | some (.v (.bool a)), some (.v (.bool b)) => K (.v (.bool (cond q a b)))
  | x, y => (q = true → oneO x K) ∧ (q = false → oneO y K)
/-- A part of a string or a slice; d: the type's form. -/
def vcSlice (P : Program) (ty : TypeId) (y : AV) (d : Option TypeDesc) (lo hi : Option (Option AV)) (K : AV → Prop) : Prop :=
  match y, d, lo, hi with
  | .v (.string s), some .string, none, some (some (.v (.int _ h))) => 0 ≤ h ∧ h ≤ s.size ∧ K (.v (.string (s.extract 0 h.toNat)))
  | .v (.string s), some .string, some (some (.v (.int _ l))), none => 0 ≤ l ∧ l ≤ s.size ∧ K (.v (.string (s.extract l.toNat s.size)))
  | .v (.string s), some .string, some (some (.v (.int _ l))), some (some (.v (.int _ h))) => 0 ≤ l ∧ l ≤ h ∧ h ≤ s.size ∧ K (.v (.string (s.extract l.toNat h.toNat)))
  | .v (.string _), _, _, _ => False
  | y, _, none, some (some (.v (.int _ h))) => 0 ≤ h ∧ ASlice P ty y 0 h.toNat K
  | y, _, some (some (.v (.int _ l))), none => (match alen y with
    | some n => 0 ≤ l ∧ 0 ≤ n ∧ ASlice P ty y l.toNat n.toNat K
    | none => False)
  | y, _, some (some (.v (.int _ l))), some (some (.v (.int _ h))) => 0 ≤ l ∧ 0 ≤ h ∧ ASlice P ty y l.toNat h.toNat K
  | _, _, _, _ => False
def aargs (t : T) : List Operand → Option (List AV)
  | [] => some []
  | x :: r => match aeval t x, aargs t r with
    | some y, some ys => some (y :: ys)
    | _, _ => none
def aparts (t : T) : List (Nat × Operand) → Option (List (Nat × AV))
  | [] => some []
  | (i, x) :: r => match aeval t x, aparts t r with
    | some y, some ys => some ((i, y) :: ys)
    | _, _ => none

def AAppend (P : Program) (ty : TypeId) (σ : H) (x y : AV) (K : AV → H → Prop) : Prop :=
  ∃ σ0 xs rs, match tel P ty, tbytes P ty with
    | some (q, none), some (e, by_) => (match tzero P e with
      | some z => z.length = q ∧ 0 < q ∧ OS e q σ0 σ x xs ∧ arows σ y = some rs ∧ (∀ r ∈ rs, r.length = q) ∧ xs.length + rs.length ≤ 9223372036854775807 ∧
          (xs.length + rs.length) * by_ ≤ 140737488355328 ∧ ((∀ x' σ', OS e q σ0 σ' x' (xs ++ rs) → K x' σ') ∨ K (.ro (xs ++ rs)) σ0)
      | none => False)
    | _, _ => False

def lenOf (P : Program) (ty : TypeId) (y : AV) : Option Int :=
  match P.underlying ty with
  | some .string => (match y with | .v (.string s) => some s.size | _ => none)
  | some (.slice _) => (match y with | .v (.string _) => none | y => alen y)
  | some (.array n _) => some n
  | _ => none

def vcBuiltin (P : Program) (b : Builtin) (tys : List TypeId) (as : List AV) (σ : H) (K : AV → H → Prop) : Prop :=
  match b, tys, as with
  | .len, [ty], [y] => (match lenOf P ty y with | some n => K (.v (.int .i64 n)) σ | none => False)
  | .append, [ty, ty'], [x, y] => ty = ty' ∧ AAppend P ty σ x y K
  | .min, _, [.v (.int k a), .v (.int k' b)] => K (.v (.int k (if b < a then b else a))) σ
  | .max, _, [.v (.int k a), .v (.int k' b)] => K (.v (.int k (if b > a then b else a))) σ
  | _, _, _ => False

def vcCall (P : Program) (c : Call) (t : T) (σ : H) (K : AV → H → Prop) (Kp : Value → H → Prop) : Prop :=
  match aargs t c.args.toList with
  | none => False
  | some as => match c.callee with
    | .builtin b => vcBuiltin P b c.argTypes.toList as σ K
    | .value f => one t f fun g => (match g with
      | .v (.func (.func n) first captured) => ACalls P n (first.toList.map .v ++ as ++ captured.toList.map .v) σ (endK K Kp)
      | _ => False)
    | .invoke r name => one t r fun g => (match g with
      | .v (.iface ty x) => ∃ f x', (∀ w, (method (P.types.size + Made.depth) ty x name).run P w = .ok (f, x') w) ∧ ACalls P f (.v x' :: as) σ (endK K Kp)
      | _ => False)

/-- The rows that stand in a literal. -/
def alit (q : Nat) : Nat → List (Nat × AV) → Option (List (List AV))
  | _, [] => some []
  | k, (i, y) :: r => if i = k ∧ y.cells.length = q ∧ y.cells.all AV.one then (alit q (k + 1) r).map (y.cells :: ·) else none

def vcOp (P : Program) (rob : Nat → Bool) (o : Oper) (t : T) (σ : H) (K : AV → H → Prop) (Kp : Value → H → Prop) : Prop :=
  match o.op with
  | .move x | .assign x => one t x fun y => K y σ
  | .pick c a b => one t c fun q => (match q with
    | .v (.bool q) => pickK q (aeval t a) (aeval t b) fun y => K y σ
    | _ => False)
  | .load ty x => one t x fun y => (match aload P σ ty y with | some z => K z σ | none => False)
  | .store ty x y => one t x fun p => one t y fun z => (match tsz P ty, astore σ p z.cells with
    | some (n, _), some σ' => z.cells.length = n ∧ z.cells.all AV.one = true ∧ K (.v undef) σ'
    | _, _ => False)
  | .box _ x => one t x fun y => y.cells.all AV.one = true ∧
      (if rob (o.dst.getD 0) then K (.elt y.cells) σ else ∀ b, σ b = none → K (.v (.pointer (some ⟨b, 0, none⟩))) (σ.upd b (.st y.cells)))
  | .alloc ty => (match tzero P ty with
    | some cs => if rob (o.dst.getD 0) then K (.elt cs) σ else ∀ b, σ b = none → K (.v (.pointer (some ⟨b, 0, none⟩))) (σ.upd b (.st cs))
    | none => False)
  | .build ty parts => (match aparts t parts.toList with
    | some ps => (match abuild P ty ps with | some y => K y σ | none => False)
    | none => False)
  | .buildSlice ty len parts => (match tel P ty, tbytes P ty, aparts t parts.toList with
    | some (q, none), some (e, _), some ps => (match tzero P e, alit q 0 ps with
      | some z, some rows => z.length = q ∧ rows.length = len ∧ len * q ≤ 16777216 ∧ len ≤ 9223372036854775807 ∧
        (if rob (o.dst.getD 0) then K (.ro rows) σ else ∀ b, σ b = none → K (.sl b len q e) (σ.upd b (.rows e q rows)))
      | _, _ => False)
    | _, _, _ => False)
  | .nilCheck x => one t x fun y => (match y with
    | .v (.pointer (some _)) => K y σ
    | .v (.func (.func _) _ _) => K y σ
    | .v (.iface _ _) => K y σ
    | .at .. => K y σ
    | .elt _ => K y σ
    | _ => False)
  | .binOp op ty x y _ => one t x fun a => one t y fun b => (match abin P op ty a b with | some (c, z) => c ∧ K z σ | none => False)
  | .unOp op _ x => one t x fun a => (match aun op a with | some z => K z σ | none => False)
  | .convert src dst x => one t x fun a => (match aconv P src dst a with | some z => (P.underlying src).isSome = true ∧ K z σ | none => False)
  | .makeInterface ty x => one t x fun a => (match toV a, P.underlying ty with
    | some v, some d => (match d with | .interface _ => False | _ => K (.v (.iface ty v)) σ)
    | _, _ => False)
  | .makeFunc fn first captured => (match aargs t first.toList, aargs t captured.toList with
    | some fs, some cs => (match fs.mapM toV, cs.mapM toV with
      | some f, some c => K (.v (.func fn f.toArray c.toArray)) σ
      | _, _ => False)
    | _, _ => False)
  | .makeSlice ty l c => one t l fun a => one t c fun b => (match a, b with
    | .v (.int _ n), .v (.int _ m) => AMake P ty σ n m K
    | _, _ => False)
  | .slice ty x lo hi none => one t x fun y => vcSlice P ty y (P.underlying ty) (lo.map (aeval t)) (hi.map (aeval t)) fun z => K z σ
  | .fieldAddr s x f => one t x fun y => (match tfoff P s f with
    | some n => (match padd y n with | some z => K z σ | none => False)
    | none => False)
  | .field ty x f => one t x fun y => (match afield P ty f y with | some z => K z σ | none => False)
  | .indexAddr ty x i => one t x fun y => one t i fun k => (match k with
    | .v (.int _ n) => 0 ≤ n ∧ aindex P ty y n.toNat fun z => K z σ
    | _ => False)
  | .index ty x i => one t x fun y => one t i fun k => (match aidx P ty y k with | some (c, z) => c ∧ K z σ | none => False)
  | .extract x i => one t x fun y => (match y with
    | .tup vs => (match vs[i]? with | some z => K z σ | none => False)
    | _ => False)
  | .panic x => one t x fun y => (match y with
    | .v (.iface ty v) => Kp (.iface ty v) σ
    | _ => False)
  | .call c => vcCall P c t σ K Kp
  | _ => False
end Go.Ag
