/- A part of the proof: A16. -/
import Derived.Test.YtlchnjgnfomiaaaA11
set_option linter.unusedSimpArgs false
set_option linter.unusedVariables false
namespace Go.Ag
open Go

/-! ### Laws by which an evaluation is worked out, from the outside in -/
section
variable {P : Program} {n : Nat} {cf : Cfg} {rob : Nat → Bool} {t : T} {σ : H} {K : AV → H → Prop} {Kp : Value → H → Prop} {Q : AQ}

def oneP (x : Option AV) (K : AV → Prop) : Prop := oneO x K
/-- What is not to be worked out yet. -/
def HoldT {α : Type} (_ : α) : Type := Unit
def mkH {α : Type} (K : α) : HoldT K := ()
def holdK {α : Type} (K : α) (_ : HoldT K) : α := K
theorem hk2 (K : AV → H → Prop) (u : HoldT K) (y : AV) (σ : H) : holdK K u y σ = K y σ := rfl
theorem hk1 (K : AV → Prop) (u : HoldT K) (y : AV) : holdK K u y = K y := rfl
theorem hkp (K : Value → H → Prop) (u : HoldT K) (y : Value) (σ : H) : holdK K u y σ = K y σ := rfl
theorem hkt (K : T → Prop) (u : HoldT K) (t : T) : holdK K u t = K t := rfl
theorem hkr (R : AEnd → H → Prop) (u : HoldT R) (e : AEnd) (σ : H) : holdK R u e σ = R e σ := rfl
theorem hko (K : Oper → Prop) (u : HoldT K) (o : Oper) : holdK K u o = K o := rfl
theorem one_eq (t : T) (x : Operand) (K : AV → Prop) : one t x K = oneO (aeval t x) (holdK K (mkH _)) := rfl
theorem oneO_eq (x : Option AV) (K : AV → Prop) : oneP x K = oneO x (holdK K (mkH _)) := rfl
theorem oneO_some (y : AV) (K : AV → Prop) : oneO (some y) K = K y := rfl

theorem get_nil (i : Nat) : T.get [] i = none := rfl
theorem get_cons (j : Nat) (x : AV) (r : T) (i : Nat) : T.get ((j, x) :: r) i = if j = i then some x else T.get r i := rfl
theorem aeval_tmp (t : T) (i : Tmp) : aeval t (.tmp i) = t.get i := rfl
theorem aeval_const (t : T) (v : Value) : aeval t (.const v) = some (cst v) := rfl
theorem aeval_func (t : T) (f : FuncId) : aeval t (.func f) = some (.v (.func (.func f) #[] #[])) := rfl
theorem cst_int (k : IntKind) (x : Int) : cst (.int k x) = .v (.int k x) := rfl
theorem cst_bool (x : Bool) : cst (.bool x) = .v (.bool x) := rfl
theorem cst_string (x : ByteArray) : cst (.string x) = .v (.string x) := rfl
theorem cst_pointer (x : Option Addr) : cst (.pointer x) = .v (.pointer x) := rfl
theorem cst_slice (a : Option Addr) (l c : Nat) : cst (.slice a l c) = .v (.slice a l c) := rfl
theorem cst_nilIface : cst .nilIface = .v .nilIface := rfl

/-- A frame that is worked out first. -/
def withT (t : T) (K : T → Prop) : Prop := K t
theorem withT_nil (K : T → Prop) : withT [] K = K [] := rfl
theorem withT_cons (x : Nat × AV) (r : T) (K : T → Prop) : withT (x :: r) K = K (x :: r) := rfl
def loadT (t : Option (Nat × Bool)) (cs : Option (List AV)) : Option AV :=
  match t with | some (n, ag) => cs.bind (apack ag n) | none => none
def cellsIn (x : Option AObj) (o : Nat) : Option (List AV) := match x with | some (.st cs) => some (cs.drop o) | _ => none
def rowIn (x : Option AObj) (i j sz : Nat) : Option (List AV) := match x with | some (.rows _ sz' xs) => if sz' = sz then (xs[i]?).map (·.drop j) else none | _ => none
def storeIn (σ : H) (b : Nat) (x : Option AObj) (o : Nat) (cs : List AV) : Option H := match x with | some (.st old) => if o + cs.length ≤ old.length then some (σ.upd b (.st (splice old o cs))) else none | _ => none
def storeR (σ : H) (b : Nat) (e : TypeId) (sz : Nat) (xs : List (List AV)) (i j : Nat) (cs : List AV) (r : Option (List AV)) : Option H := match r with
  | some r => if j + cs.length ≤ r.length then some (σ.upd b (.rows e sz (xs.set i (splice r j cs)))) else none
  | none => none
def storeRow (σ : H) (b : Nat) (x : Option AObj) (i j sz : Nat) (cs : List AV) : Option H := match x with | some (.rows e sz' xs) => if sz' = sz then storeR σ b e sz xs i j cs (xs[i]?) else none | _ => none
def aixT (t : Option (Nat × Option Nat)) (x : AV) (k : Nat) (K : AV → Prop) : Prop :=
  match t with
  | some (esz, none) => (match x with
    | .ro xs => k < xs.length ∧ ∀ r, xs[k]? = some r → r.length = esz ∧ K (.elt r)
    | .sl b len sz _ => k < len ∧ sz = esz ∧ K (.at b k 0 sz)
    | .win b off len sz => k < len ∧ sz = esz ∧ K (.at b (off + k) 0 sz)
    | _ => False)
  | some (esz, some n) => (match padd x (k * esz) with
    | some y => k < n ∧ K y
    | none => False)
  | none => False
/-- Operations that are picked out first. -/
def opsAt (P : Program) (n : Nat) (rob : Nat → Bool) (all : List Oper) (Q : AQ) (l : List Oper) (t : T) (σ : H) : Prop := vcOps P n rob all Q l t σ
theorem opsAt_nil (all : List Oper) : opsAt P n rob all Q [] t σ = Q .normal t σ := rfl
theorem opsAt_cons (all : List Oper) (o : Oper) (r : List Oper) : opsAt P n rob all Q (o :: r) t σ = vcOps P n rob all Q (o :: r) t σ := rfl
/-- A part that joins: what it comes to is to be named. -/
def joinAt (P : Program) (n : Nat) (rob : Nat → Bool) (all l : List Oper) (len : Nat) (d : Tmp) (lv : List Tmp) (r : List Seg) (Q : AQ) (t : T) (σ : H) : Prop :=
  ∃ b : Bool, opsAt P n rob all (joinQ d (.v (.bool b)) lv t σ Q) (l.take len) t σ ∧ vcSegs P n rob all Q r (l.drop len) ((d, .v (.bool b)) :: t.keep lv) σ
theorem vcSegs_join (all l : List Oper) (len : Nat) (d : Tmp) (lv : List Tmp) (r : List Seg) : vcSegs P n rob all Q (⟨len, some d, lv⟩ :: r) l t σ = joinAt P n rob all l len d lv r Q t σ := rfl
theorem vcSegs_plain (all l : List Oper) (len : Nat) (lv : List Tmp) (r : List Seg) : vcSegs P n rob all Q (⟨len, none, lv⟩ :: r) l t σ = opsAt P n rob all (thenQ (vcSegs P n rob all Q r (l.drop len)) Q) (l.take len) t σ := rfl
/-- The value is named. -/
theorem joinAt_of {all l : List Oper} {len : Nat} {d : Tmp} {lv : List Tmp} {r : List Seg} (b : Bool) (h : opsAt P n rob all (joinQ d (.v (.bool b)) lv t σ Q) (l.take len) t σ)
    (h' : withT ((d, .v (.bool b)) :: t.keep lv) (holdK (fun t => vcSegs P n rob all Q r (l.drop len) t σ) (mkH _))) : joinAt P n rob all l len d lv r Q t σ := ⟨b, h, h'⟩
/-- Two ways. -/
def onB (q : Bool) (A B : Prop) : Prop := (q = true → A) ∧ (q = false → B)
theorem onB_true (A B : Prop) : onB true A B = A := by simp [onB]
theorem onB_false (A B : Prop) : onB false A B = B := by simp [onB]
theorem onB_not (q : Bool) (A B : Prop) : onB (!q) A B = onB q B A := by cases q <;> simp [onB]
theorem onB_decide (p : Prop) [Decidable p] (A B : Prop) : onB (decide p) A B = ((p → A) ∧ (¬ p → B)) := by simp [onB]
theorem onB_intro {q : Bool} {A B : Prop} (h : q = true → A) (h' : q = false → B) : onB q A B := ⟨h, h'⟩
theorem vcOps_nil (all : List Oper) : vcOps P n rob all Q [] t σ = Q .normal t σ := rfl
theorem vcOps_some (all : List Oper) (d : Tmp) (op : Op) (ty : TypeId) (pos : String) (af : Array Edge) (r : List Oper) :
    vcOps P n rob all Q (⟨some d, op, ty, pos, af, none⟩ :: r) t σ = (d < n ∧ vcOp P rob ⟨some d, op, ty, pos, af, none⟩ t σ (holdK (fun y σ' => vcOps P n rob all Q r ((d, y) :: t) σ') (mkH _)) (holdK (fun v σ' => Q (.pan v) t σ') (mkH _))) := by
  simp [vcOps, dstOk, T.put, holdK]
theorem vcOps_none (all : List Oper) (op : Op) (ty : TypeId) (pos : String) (af : Array Edge) (r : List Oper) :
    vcOps P n rob all Q (⟨none, op, ty, pos, af, none⟩ :: r) t σ = vcOp P rob ⟨none, op, ty, pos, af, none⟩ t σ (holdK (fun _ σ' => vcOps P n rob all Q r t σ') (mkH _)) (holdK (fun v σ' => Q (.pan v) t σ') (mkH _)) := by
  simp [vcOps, dstOk, T.put, holdK]

/-- The place where an operation's guard stands. -/
def gplace (all : List Oper) (j : Nat) : Option Tmp := (all[j]?).bind (·.dst)
theorem gplace_cons (o : Oper) (r : List Oper) (j : Nat) : gplace (o :: r) (j + 1) = gplace r j := rfl
theorem gplace_zero (d : Option Tmp) (op : Op) (ty : TypeId) (pos : String) (af : Array Edge) (g : Option (Nat × Bool)) (r : List Oper) : gplace (⟨d, op, ty, pos, af, g⟩ :: r) 0 = d := rfl
/-- What is done by a guard. -/
def onGuard (g : Option AV) (want : Bool) (A B : Prop) : Prop :=
  match g with
  | some (.v (.bool q)) => (q = want → A) ∧ (q = !want → B)
  | some (.v (.tuple _)) => B
  | _ => False
/-- A guard's two ways. -/
def oneGx (g : Option AV) (k : Tmp) (t : T) (want : Bool) (A B : T → Prop) : Prop :=
  match g with
  | some (.v (.bool q)) => (q = want → A ((k, .v (.bool want)) :: t)) ∧ (q = !want → B ((k, .v (.bool !want)) :: t))
  | some (.v (.tuple _)) => B t
  | _ => False
def oneG (p : Option Tmp) (t : T) (want : Bool) (A B : T → Prop) : Prop :=
  match p with
  | some k => oneGx (t.get k) k t want A B
  | none => False
theorem oneG_some (k : Tmp) (want : Bool) (A B : T → Prop) : oneG (some k) t want A B = oneGx (t.get k) k t want A B := rfl
theorem oneGx_true (k : Tmp) (q : Bool) (A B : T → Prop) : oneGx (some (.v (.bool q))) k t true A B = onB q (A ((k, .v (.bool true)) :: t)) (B ((k, .v (.bool false)) :: t)) := by simp [oneGx, onB]
theorem oneGx_false (k : Tmp) (q : Bool) (A B : T → Prop) : oneGx (some (.v (.bool q))) k t false A B = onB q (B ((k, .v (.bool true)) :: t)) (A ((k, .v (.bool false)) :: t)) := by
  simp [oneGx, onB]; exact And.comm
theorem oneGx_undef' (k : Tmp) (want : Bool) (A B : T → Prop) : oneGx (some (.v undef)) k t want A B = B t := rfl
theorem oneGx_undef (k : Tmp) (want : Bool) (a : Array Value) (A B : T → Prop) : oneGx (some (.v (.tuple a))) k t want A B = B t := rfl
/-- A guard's two ways, in any order. -/
def onGd (p : Option Tmp) (t : T) (want : Bool) (A B : Prop) : Prop :=
  match p with
  | some k => onGuard (t.get k) want A B
  | none => False
theorem onGd_some (k : Tmp) (want : Bool) (A B : Prop) : onGd (some k) t want A B = onGuard (t.get k) want A B := rfl
theorem onGuard_true (q : Bool) (A B : Prop) : onGuard (some (.v (.bool q))) true A B = onB q A B := by simp [onGuard, onB]
theorem onGuard_false (q : Bool) (A B : Prop) : onGuard (some (.v (.bool q))) false A B = onB q B A := by
  simp [onGuard, onB]; exact And.comm
theorem onGuard_undef' (want : Bool) (A B : Prop) : onGuard (some (.v undef)) want A B = B := rfl
theorem onGuard_undef (want : Bool) (a : Array Value) (A B : Prop) : onGuard (some (.v (.tuple a))) want A B = B := rfl
theorem vcOps_guard (all : List Oper) (d : Tmp) (op : Op) (ty : TypeId) (pos : String) (af : Array Edge) (j : Nat) (want : Bool) (r : List Oper) (k : Tmp) (h : gplace all j = some k) :
    vcOps P n rob all Q (⟨some d, op, ty, pos, af, some (j, want)⟩ :: r) t σ = (d < n ∧ match t.get k with
      | some (.v (.bool q)) => (q = want → vcOp P rob ⟨some d, op, ty, pos, af, some (j, want)⟩ ((k, .v (.bool want)) :: t) σ (fun y σ' => vcOps P n rob all Q r ((d, y) :: (k, .v (.bool want)) :: t) σ') (fun v σ' => Q (.pan v) t σ')) ∧
          (q = !want → vcOps P n rob all Q r ((d, .v undef) :: (k, .v (.bool !want)) :: t) σ)
      | some (.v (.tuple _)) => vcOps P n rob all Q r ((d, .v undef) :: t) σ
      | _ => False) := by
  unfold gplace at h
  simp only [vcOps, dstOk, T.put, h, decide_eq_true_eq]
  rfl

theorem vcOps_guard' (all : List Oper) (d : Tmp) (op : Op) (ty : TypeId) (pos : String) (af : Array Edge) (j : Nat) (want : Bool) (r : List Oper) :
    vcOps P n rob all Q (⟨some d, op, ty, pos, af, some (j, want)⟩ :: r) t σ = (d < n ∧ oneG (gplace all j) t want
      (holdK (fun t' => vcOp P rob ⟨some d, op, ty, pos, af, some (j, want)⟩ t' σ (holdK (fun y σ' => vcOps P n rob all Q r ((d, y) :: t') σ') (mkH _)) (holdK (fun v σ' => Q (.pan v) t σ') (mkH _))) (mkH _))
      (holdK (fun t' => vcOps P n rob all Q r ((d, .v undef) :: t') σ) (mkH _))) := by
  unfold oneG holdK
  cases h : gplace all j with
  | none => unfold gplace at h; simp only [vcOps, dstOk, T.put, h, decide_eq_true_eq]
  | some k =>
    rw [vcOps_guard all d op ty pos af j want r k h]
    simp only
    cases t.get k with
    | none => rfl
    | some y =>
      cases y with
      | v z => cases z <;> rfl
      | _ => rfl

theorem vc_skip : vc P n cf .skip Q t σ = Q .normal t σ := rfl
theorem vc_exit (id : Nat) : vc P n cf (.exit id) Q t σ = Q (.exit id) t σ := rfl
theorem vc_ret : vc P n cf .ret Q t σ = Q .ret t σ := rfl
theorem vc_seq (a b : Code) : vc P n cf (.seq a b) Q t σ = vc P n cf a (thenQ (vc P n cf b Q) Q) t σ := rfl
theorem vc_block (id : Nat) (b : Code) : vc P n cf (.block id b) Q t σ = vc P n cf b (blockQ id Q) t σ := rfl
theorem vc_loop (b : Code) : vc P n cf (.loop b) Q t σ = vcLoop (vc P n cf b) Q t σ := rfl
/-- A condition. -/
def onBool (g : Option AV) (A B : Prop) : Prop :=
  match g with
  | some (.v (.bool q)) => (q = true → A) ∧ (q = false → B)
  | _ => False
theorem onBool_some (q : Bool) (A B : Prop) : onBool (some (.v (.bool q))) A B = onB q A B := rfl
theorem vc_cond (c : Operand) (x y : Code) : vc P n cf (.cond c x y) Q t σ = onBool (aeval t c) (vc P n cf x Q t σ) (vc P n cf y Q t σ) := by
  simp only [vc, one, onBool]
  cases aeval t c with
  | none => rfl
  | some y =>
    cases y with
    | v z => cases z <;> rfl
    | _ => rfl
def onLv (o : Option (List Tmp)) (t : T) (K : T → Prop) : Prop := match o with | some l => withT (t.keep l) K | none => K t
theorem onLv_some (l : List Tmp) (K : T → Prop) : onLv (some l) t K = withT (t.keep l) K := rfl
theorem onLv_none (K : T → Prop) : onLv none t K = K t := rfl
theorem keepQ_normal (lv : Option (List Tmp)) : keepQ lv Q .normal t σ = onLv lv t (holdK (fun t' => Q .normal t' σ) (mkH _)) := by cases lv <;> rfl
theorem keepQ_exit (lv : Option (List Tmp)) (i : Nat) : keepQ lv Q (.exit i) t σ = Q (.exit i) t σ := rfl
theorem keepQ_ret (lv : Option (List Tmp)) : keepQ lv Q .ret t σ = Q .ret t σ := rfl
theorem keepQ_pan (lv : Option (List Tmp)) (v : Value) : keepQ lv Q (.pan v) t σ = Q (.pan v) t σ := rfl
theorem joinQ_normal (d : Tmp) (y : AV) (l : List Tmp) (t0 : T) (σ0 : H) : joinQ d y l t0 σ0 Q .normal t σ = (t.get d = some y ∧ Sub (t0.keep l) t ∧ σ = σ0) := rfl
theorem joinQ_pan (d : Tmp) (y : AV) (l : List Tmp) (t0 : T) (σ0 : H) (v : Value) : joinQ d y l t0 σ0 Q (.pan v) t σ = Q (.pan v) t σ := rfl
def segsAt (P : Program) (n : Nat) (rob : Nat → Bool) (ops : List Oper) (s : List Seg) (Q : AQ) (t : T) (σ : H) : Prop := vcSegs P n rob ops Q s ops t σ
theorem segsAt_nil (ops : List Oper) : segsAt P n rob ops [] Q t σ = vcOps P n rob ops Q ops t σ := rfl
theorem segsAt_cons (ops : List Oper) (s : Seg) (r : List Seg) : segsAt P n rob ops (s :: r) Q t σ = vcSegs P n rob ops Q (s :: r) ops t σ := rfl
theorem vcSegs_nil (all ops : List Oper) : vcSegs P n rob all Q [] ops t σ = opsAt P n rob all Q ops t σ := rfl
theorem vc_region (id : Nat) (ops : List Oper) : vc P n cf (.region id ops.toArray false) Q t σ = segsAt P n cf.rob ops (cf.sg id) (keepQ (cf.lv id) Q) t σ := by
  simp [vc, segsAt]
theorem vc_draw (id : Nat) (ops : List Oper) : vc P n cf (.region id ops.toArray true) Q t σ = vcPlan P n cf.rob (Wreg cf id t) ops.toArray (keepQ (cf.lv id) Q) (cf.pl id) t σ := rfl

theorem thenQ_normal (A : T → H → Prop) : thenQ A Q .normal t σ = A t σ := rfl
theorem thenQ_exit (A : T → H → Prop) (id : Nat) : thenQ A Q (.exit id) t σ = Q (.exit id) t σ := rfl
theorem thenQ_ret (A : T → H → Prop) : thenQ A Q .ret t σ = Q .ret t σ := rfl
theorem thenQ_pan (A : T → H → Prop) (v : Value) : thenQ A Q (.pan v) t σ = Q (.pan v) t σ := rfl
theorem blockQ_normal (id : Nat) : blockQ id Q .normal t σ = Q .normal t σ := rfl
theorem blockQ_exit (id i : Nat) : blockQ id Q (.exit i) t σ = if i = id then Q .normal t σ else Q (.exit i) t σ := rfl
theorem blockQ_ret (id : Nat) : blockQ id Q .ret t σ = Q .ret t σ := rfl
theorem blockQ_pan (id : Nat) (v : Value) : blockQ id Q (.pan v) t σ = Q (.pan v) t σ := rfl

/-- At a function's end. -/
def atEnd (P : Program) (rs : List ResultVar) (R : AEnd → H → Prop) (t : T) (σ : H) : Prop := ∃ ys, ares P t σ rs = some ys ∧ ∃ σ' y, FrzH σ σ' ∧ Frz σ σ' (aret ys) y ∧ R (.ret y) σ'
def gotRes (ys : Option (List AV)) (R : AEnd → H → Prop) (σ : H) : Prop := ∃ zs, ys = some zs ∧ ∃ σ' y, FrzH σ σ' ∧ Frz σ σ' (aret zs) y ∧ R (.ret y) σ'
theorem bodyQ_normal (rs : List ResultVar) (R : AEnd → H → Prop) : bodyQ P rs R .normal t σ = gotRes (ares P t σ rs) R σ := rfl
theorem bodyQ_ret (rs : List ResultVar) (R : AEnd → H → Prop) : bodyQ P rs R .ret t σ = gotRes (ares P t σ rs) R σ := rfl
theorem bodyQ_pan (rs : List ResultVar) (R : AEnd → H → Prop) (v : Value) : bodyQ P rs R (.pan v) t σ = ∃ σ', FrzH σ σ' ∧ R (.pan v) σ' := rfl
/-- The result as it is, the owned blocks as they are. -/
theorem gotRes_same {ys : List AV} {R : AEnd → H → Prop} {u : HoldT R} {σ : H} (h : R (.ret (aret ys)) σ) : gotRes (some ys) (holdK R u) σ :=
  ⟨ys, rfl, σ, _, FrzH.of_sub fun _ _ h => h, .refl _, h⟩
/-- The result as it is; owned blocks are let go. -/
theorem gotRes_drop {ys : List AV} {R : AEnd → H → Prop} {u : HoldT R} {σ σ' : H} (hs : ∀ b o, σ' b = some o → σ b = some o) (h : R (.ret (aret ys)) σ') : gotRes (some ys) (holdK R u) σ :=
  ⟨ys, rfl, σ', _, FrzH.of_sub hs, .refl _, h⟩
theorem gotRes_frz {ys : List AV} {R : AEnd → H → Prop} {u : HoldT R} {σ σ' : H} {y : AV} (hs : FrzH σ σ') (hy : Frz σ σ' (aret ys) y) (h : R (.ret y) σ') : gotRes (some ys) (holdK R u) σ :=
  ⟨ys, rfl, σ', _, hs, hy, h⟩

theorem endK_ret (K : AV → H → Prop) (Kp : Value → H → Prop) (y : AV) (σ : H) : endK K Kp (.ret y) σ = K y σ := rfl
theorem endK_pan (K : AV → H → Prop) (Kp : Value → H → Prop) (v : Value) (σ : H) : endK K Kp (.pan v) σ = Kp v σ := rfl

theorem ares_cons_tmp (i : Tmp) (r : List ResultVar) (y : AV) (ys : List AV) (h : t.get i = some y) (h' : ares P t σ r = some ys) : ares P t σ (.tmp i :: r) = some (y :: ys) := by simp [ares, h, h']
theorem vcPlan_done {W : Nat → Prop} {ops : Array Oper} : vcPlan P n rob W ops Q .done t σ = Q .normal t σ := rfl
/-- An operation of a region. -/
def opAt (l : List Oper) (i : Nat) : Option Oper := l[i]?
theorem opAt_cons (o : Oper) (r : List Oper) (j : Nat) : opAt (o :: r) (j + 1) = opAt r j := rfl
theorem opAt_zero (o : Oper) (r : List Oper) : opAt (o :: r) 0 = some o := rfl
def onOp (x : Option Oper) (K : Oper → Prop) : Prop := match x with | some o => K o | none => False
theorem onOp_some (o : Oper) (K : Oper → Prop) : onOp (some o) K = K o := rfl
def firstOp (P : Program) (n : Nat) (rob : Nat → Bool) (W : Nat → Prop) (flag : Bool) (l : List Oper) (Q : AQ) (p : Plan) (o : Oper) (t : T) (σ : H) : Prop :=
  dstOk n o.dst = true ∧ vpG P rob (Wif flag W) l.toArray o t σ (fun y => vcPlan P n rob W l.toArray Q p (t.put o.dst y) σ)
theorem vcPlan_first {W : Nat → Prop} {l : List Oper} (i : Nat) (S : List Nat) (flag : Bool) (p : Plan) :
    vcPlan P n rob W l.toArray Q (.first i S flag p) t σ = onOp (opAt l i) (holdK (fun o => firstOp P n rob W flag l Q p o t σ) (mkH _)) := by
  simp only [holdK, vcPlan, onOp, opAt, List.getElem?_toArray, firstOp]
  cases l[i]? <;> rfl
def loadOk (op : Op) (t : T) (W : Nat → Prop) : Prop := match op with | .load _ x => one t x (notIn W) | _ => True
theorem firstOp_none {W : Nat → Prop} {flag : Bool} {l : List Oper} {p : Plan} (d : Tmp) (op : Op) (ty : TypeId) (pos : String) (af : Array Edge) :
    firstOp P n rob W flag l Q p ⟨some d, op, ty, pos, af, none⟩ t σ = (d < n ∧ isPure op = true ∧ loadOk op t (Wif flag W) ∧ vcOp P rob ⟨some d, op, ty, pos, af, none⟩ t σ (holdK (fun y _ => vcPlan P n rob W l.toArray Q p ((d, y) :: t) σ) (mkH _)) (holdK (fun _ _ => False) (mkH _))) := by
  simp only [firstOp, vpG, vp, dstOk, T.put, loadOk, decide_eq_true_eq]
  rfl
theorem gplace_eq (l : List Oper) (j : Nat) : (l.toArray[j]?).bind (·.dst) = gplace l j := by simp [gplace]
theorem firstOp_guard {W : Nat → Prop} {flag : Bool} {l : List Oper} {p : Plan} (d : Tmp) (op : Op) (ty : TypeId) (pos : String) (af : Array Edge) (j : Nat) (want : Bool) :
    firstOp P n rob W flag l Q p ⟨some d, op, ty, pos, af, some (j, want)⟩ t σ = (d < n ∧ onGd (gplace l j) t want
      (isPure op = true ∧ loadOk op t (Wif flag W) ∧ vcOp P rob ⟨some d, op, ty, pos, af, some (j, want)⟩ t σ (holdK (fun y _ => vcPlan P n rob W l.toArray Q p ((d, y) :: t) σ) (mkH _)) (holdK (fun _ _ => False) (mkH _)))
      (vcPlan P n rob W l.toArray Q p ((d, .v undef) :: t) σ)) := by
  simp only [firstOp, vpG, vp, dstOk, T.put, loadOk, decide_eq_true_eq, gplace_eq, onGd]
  cases gplace l j with
  | none => rfl
  | some k =>
    simp only
    cases t.get k with
    | none => rfl
    | some y =>
      cases y with
      | v z => cases z <;> rfl
      | _ => rfl
def altOp (P : Program) (n : Nat) (rob : Nat → Bool) (W : Nat → Prop) (l : List Oper) (Q : AQ) (p : Plan) (o : Oper) (t : T) (σ : H) : Prop :=
  dstOk n o.dst = true ∧ vcG P rob l.toArray o t σ (fun y σ' => (noEffect o.op = false → Stab W σ σ') ∧ vcPlan P n rob W l.toArray Q p (t.put o.dst y) σ') (fun v σ' => Q (.pan v) [] σ')
theorem vcPlan_alt {W : Nat → Prop} {l : List Oper} (i : Nat) (p rest : Plan) :
    vcPlan P n rob W l.toArray Q (.alt i p rest) t σ = ((onOp (opAt l i) (holdK (fun o => altOp P n rob W l Q p o t σ) (mkH _))) ∧ vcPlan P n rob W l.toArray Q rest t σ) := by
  simp only [holdK, vcPlan, onOp, opAt, List.getElem?_toArray, altOp]
  cases l[i]? <;> rfl
theorem vcPlan_stop {W : Nat → Prop} {ops : Array Oper} : vcPlan P n rob W ops Q .stop t σ = True := rfl
theorem vcPlan_alt1 {W : Nat → Prop} {l : List Oper} (i : Nat) (p : Plan) :
    vcPlan P n rob W l.toArray Q (.alt i p .stop) t σ = onOp (opAt l i) (holdK (fun o => altOp P n rob W l Q p o t σ) (mkH _)) := by
  rw [vcPlan_alt, vcPlan_stop, and_true]
theorem altOp_none {W : Nat → Prop} {l : List Oper} {p : Plan} (d : Option Tmp) (op : Op) (ty : TypeId) (pos : String) (af : Array Edge) :
    altOp P n rob W l Q p ⟨d, op, ty, pos, af, none⟩ t σ = (dstOk n d = true ∧ vcOp P rob ⟨d, op, ty, pos, af, none⟩ t σ (holdK (fun y σ' => (noEffect op = false → Stab W σ σ') ∧ vcPlan P n rob W l.toArray Q p (t.put d y) σ') (mkH _)) (holdK (fun v σ' => Q (.pan v) [] σ') (mkH _))) := rfl
theorem altOp_guard {W : Nat → Prop} {l : List Oper} {p : Plan} (d : Option Tmp) (op : Op) (ty : TypeId) (pos : String) (af : Array Edge) (j : Nat) (want : Bool) :
    altOp P n rob W l Q p ⟨d, op, ty, pos, af, some (j, want)⟩ t σ = (dstOk n d = true ∧ onGd (gplace l j) t want
      (vcOp P rob ⟨d, op, ty, pos, af, some (j, want)⟩ t σ (holdK (fun y σ' => (noEffect op = false → Stab W σ σ') ∧ vcPlan P n rob W l.toArray Q p (t.put d y) σ') (mkH _)) (holdK (fun v σ' => Q (.pan v) [] σ') (mkH _)))
      ((noEffect op = false → Stab W σ σ) ∧ vcPlan P n rob W l.toArray Q p (t.put d (.v undef)) σ)) := by
  simp only [altOp, vcG, gplace_eq, onGd]
  cases gplace l j with
  | none => rfl
  | some k =>
    simp only
    cases t.get k with
    | none => rfl
    | some y =>
      cases y with
      | v z => cases z <;> rfl
      | _ => rfl
theorem put_some (t : T) (d : Tmp) (y : AV) : t.put (some d) y = (d, y) :: t := rfl
theorem put_none (t : T) (y : AV) : t.put none y = t := rfl
theorem loadOk_load (ty : TypeId) (x : Operand) (W : Nat → Prop) : loadOk (.load ty x) t W = oneO (aeval t x) (notIn W) := rfl
theorem notIn_Wif_false (W : Nat → Prop) (x : AV) : notIn (Wif false W) x = True := by
  unfold notIn Wif
  split <;> simp
theorem notIn_elt (W : Nat → Prop) (x : List AV) : notIn W (.elt x) = True := rfl
theorem notIn_ptr (W : Nat → Prop) (a : Addr) : notIn W (.v (.pointer (some a))) = ¬ W a.block := rfl
theorem notIn_at (W : Nat → Prop) (b i j sz : Nat) : notIn W (.at b i j sz) = ¬ W b := rfl
theorem Wreg_all {id : Nat} (h : cf.wa id = true) (b : Nat) : Wreg cf id t b = True := by simp [Wreg, h]
theorem Wreg_of {id : Nat} (h : cf.wa id = false) (b : Nat) : Wreg cf id t b = Wof t (cf.wl id) b := by simp [Wreg, h]
theorem stab_all {id : Nat} (h : cf.wa id = true) (σ σ' : H) : Stab (Wreg cf id t) σ σ' = True := by
  simp only [Stab, Wreg, h, if_true, not_true, eq_iff_iff, iff_true]
  exact fun _ _ _ hf => hf.elim
theorem stab_same (W : Nat → Prop) (σ : H) : Stab W σ σ = True := eq_true (Stab.refl W σ)
theorem Wif_false (W : Nat → Prop) (b : Nat) : Wif false W b = False := by simp [Wif]
theorem Wif_true (W : Nat → Prop) (b : Nat) : Wif true W b = W b := by simp [Wif]
theorem Wof_nil (t : T) (b : Nat) : Wof t [] b = False := by simp [Wof]
def Wone (x : Option AV) (b : Nat) : Prop := match x with
    | some (.v (.pointer (some a))) => b = a.block
    | some (.at c _ _ _) => b = c
    | some (.sl c _ _ _) => b = c
    | some (.win c _ _ _) => b = c
    | _ => False
theorem Wof_cons (t : T) (i : Tmp) (l : List Tmp) (b : Nat) : Wof t (i :: l) b = (Wone (t.get i) b ∨ Wof t l b) := by
  simp only [Wof, List.mem_cons, exists_eq_or_imp, eq_iff_iff]
  rfl
theorem one_int (k : IntKind) (n : Int) : (AV.v (.int k n)).one = true := rfl
theorem one_bool (q : Bool) : (AV.v (.bool q)).one = true := rfl
theorem one_string (q : ByteArray) : (AV.v (.string q)).one = true := rfl
theorem one_pointer (q : Option Addr) : (AV.v (.pointer q)).one = true := rfl
theorem one_slice (a : Option Addr) (l c : Nat) : (AV.v (.slice a l c)).one = true := rfl
theorem one_nilIface : (AV.v .nilIface).one = true := rfl
theorem one_iface (t : TypeId) (v : Value) : (AV.v (.iface t v)).one = true := rfl
theorem one_func (f : Fn) (a b : Array Value) : (AV.v (.func f a b)).one = true := rfl
theorem one_ro (xs : List (List AV)) : (AV.ro xs).one = true := rfl
theorem one_elt (xs : List AV) : (AV.elt xs).one = true := rfl
theorem one_sl (b l z : Nat) (e : TypeId) : (AV.sl b l z e).one = true := rfl
theorem one_win (b l z e : Nat) : (AV.win b l z e).one = true := rfl
theorem one_at (b l z e : Nat) : (AV.at b l z e).one = true := rfl
theorem one_mt : AV.mt.one = true := rfl
theorem cells_v (x : Value) : (AV.v x).cells = [.v x] := rfl
theorem cells_ro (xs : List (List AV)) : (AV.ro xs).cells = [.ro xs] := rfl
theorem cells_elt (xs : List AV) : (AV.elt xs).cells = [.elt xs] := rfl
theorem cells_sl (b l z : Nat) (e : TypeId) : (AV.sl b l z e).cells = [.sl b l z e] := rfl
theorem cells_win (b l z e : Nat) : (AV.win b l z e).cells = [.win b l z e] := rfl
theorem cells_at (b l z e : Nat) : (AV.at b l z e).cells = [.at b l z e] := rfl
theorem cells_mt : AV.mt.cells = [.mt] := rfl
theorem cells_agg (cs : List AV) : (AV.agg cs).cells = cs := rfl
theorem cells_one {x : AV} (h : x.one = true) : x.cells = [x] := by cases x <;> first | rfl | cases h
theorem apack_false (n : Nat) (cs : List AV) : apack false n cs = cs[0]? := rfl
theorem apack_true (n : Nat) (cs : List AV) : apack true n cs = if n ≤ cs.length then some (.agg (cs.take n)) else none := rfl
theorem splice_one (l : List AV) (o : Nat) (c : AV) : splice l o [c] = l.set o c := rfl
theorem splice_two (l : List AV) (o : Nat) (c d : AV) (r : List AV) : splice l o (c :: d :: r) = l.take o ++ (c :: d :: r) ++ l.drop (o + (c :: d :: r).length) := rfl
theorem aidx_str (ty : TypeId) (s : ByteArray) (k : IntKind) (n : Int) (h : P.underlying ty = some .string) : aidx P ty (.v (.string s)) (.v (.int k n)) = some (0 ≤ n ∧ n < s.size, .v (.int .u8 ((s.data.getD n.toNat 0).toNat))) := by simp [aidx, h]
theorem sub_append {a b t : T} (h : Sub a t) (h' : Sub b t) : Sub (a ++ b) t := by
  induction a with
  | nil => exact h'
  | cons x r ih => exact ⟨h.1, ih h.2⟩
theorem sub_nil (t : T) : Sub [] t = True := rfl
theorem sub_cons (i : Nat) (x : AV) (r t : T) : Sub ((i, x) :: r) t = (t.get i = some x ∧ Sub r t) := rfl
theorem keep_nil (t : T) : t.keep [] = [] := rfl
theorem keep_cons (t : T) (i : Nat) (l : List Nat) : t.keep (i :: l) = match t.get i with
    | some x => (i, x) :: t.keep l
    | none => t.keep l := rfl
theorem FrzH.refl (σ : H) : FrzH σ σ := FrzH.of_sub fun _ _ h => h
/-- A loop: lv are the temporaries that stay, chg those that change; owned blocks may be let go at each round's end. -/
theorem vcLoop_of {α : Type} (lv : List Nat) (chg : α → T) (J : Nat → α → H → Prop) (n0 : Nat) (a0 : α) {B : AQ → T → H → Prop} (h0 : Sub (chg a0) t) (hJ : J n0 a0 σ)
    (hr : ∀ k a σ, J k a σ → B (thenQ (fun t' σ' => ∃ m, m < k ∧ ∃ a' σ'', Sub (chg a' ++ t.keep lv) t' ∧ FrzH σ' σ'' ∧ J m a' σ'') Q) (chg a ++ t.keep lv) σ) : vcLoop B Q t σ := by
  refine ⟨fun k t' σ' => ∃ a, t' = chg a ++ t.keep lv ∧ J k a σ', n0, ⟨_, σ, sub_append h0 (sub_keep t lv), FrzH.refl σ, a0, rfl, hJ⟩, ?_⟩
  rintro k _ σ1 ⟨a, rfl, hJ1⟩
  have := hr k a σ1 hJ1
  refine cast (congrArg (fun q => B (thenQ q Q) _ _) ?_) this
  funext t' σ'
  apply propext
  constructor
  · rintro ⟨m, hm, a', σ'', hs, hf, hj⟩; exact ⟨m, hm, _, σ'', hs, hf, a', rfl, hj⟩
  · rintro ⟨m, hm, _, σ'', hs, hf, a', rfl, hj⟩; exact ⟨m, hm, a', σ'', hs, hf, hj⟩
theorem wrap_i64 {n : Int} (h : -9223372036854775808 ≤ n) (h' : n < 9223372036854775808) : IntKind.i64.wrap n = n := by
  have e : IntKind.i64.wrap n = if n % 18446744073709551616 ≥ 9223372036854775808 then n % 18446744073709551616 - 18446744073709551616 else n % 18446744073709551616 := by
    simp [IntKind.wrap, IntKind.bits, IntKind.signed]
  rw [e]; split <;> omega
theorem wrap_u64 {n : Int} (h : 0 ≤ n) (h' : n < 18446744073709551616) : IntKind.u64.wrap n = n := by
  simp only [IntKind.wrap, IntKind.bits, IntKind.signed, Bool.false_and, Bool.false_eq_true, if_false]; omega
theorem wrap_u32 {n : Int} (h : 0 ≤ n) (h' : n < 4294967296) : IntKind.u32.wrap n = n := by
  simp only [IntKind.wrap, IntKind.bits, IntKind.signed, Bool.false_and, Bool.false_eq_true, if_false]; omega
theorem wrap_u8 {n : Int} (h : 0 ≤ n) (h' : n < 256) : IntKind.u8.wrap n = n := by
  simp only [IntKind.wrap, IntKind.bits, IntKind.signed, Bool.false_and, Bool.false_eq_true, if_false]; omega
theorem wrap_u64_mod (n : Int) : IntKind.u64.wrap n = n % 18446744073709551616 := by
  simp only [IntKind.wrap, IntKind.bits, IntKind.signed, Bool.false_and, Bool.false_eq_true, if_false]; omega
theorem wrap_u8_mod (n : Int) : IntKind.u8.wrap n = n % 256 := by
  simp only [IntKind.wrap, IntKind.bits, IntKind.signed, Bool.false_and, Bool.false_eq_true, if_false]; omega
theorem aidx_arr1 {ty e : TypeId} {m : Nat} (hu : P.underlying ty = some (.array m e)) (ht : tsz P e = some (1, false)) (cs : List AV) (k : IntKind) (n : Int) (z : AV) (hz : cs[n.toNat]? = some z) :
    aidx P ty (.agg cs) (.v (.int k n)) = some (0 ≤ n ∧ n < m, z) := by
  simp [aidx, hu, ht, apack, hz]
theorem gotRes_one {y : AV} {R : AEnd → H → Prop} {u : HoldT R} {σ : H} (h : R (.ret y) σ) : gotRes (some [y]) (holdK R u) σ := gotRes_same h
theorem gotRes_one_drop {y : AV} {R : AEnd → H → Prop} {u : HoldT R} {σ σ' : H} (hs : ∀ b o, σ' b = some o → σ b = some o) (h : R (.ret y) σ') : gotRes (some [y]) (holdK R u) σ := gotRes_drop hs h
/-- A call whose result is known. -/
theorem ACalls.ret {f : FuncId} {as : List AV} {σ : H} {y : AV} (h : ACalls P f as σ fun e σ' => e = .ret y ∧ σ' = σ) {K : AV → H → Prop} {Kp : Value → H → Prop} (hk : K y σ) : ACalls P f as σ (endK K Kp) :=
  h.mono fun e σ' ⟨h1, h2⟩ => by subst h1; subst h2; exact hk
theorem bytes_toList (l : List UInt8) : (⟨l.toArray⟩ : ByteArray).toList = l := by rw [ByteArray.toList_eq]
theorem bytes_beq (l m : List UInt8) : ((⟨l.toArray⟩ : ByteArray).toList == (⟨m.toArray⟩ : ByteArray).toList) = decide (l = m) := by
  rw [bytes_toList, bytes_toList]; by_cases h : l = m <;> simp [h]
theorem aload_eq (σ : H) (ty : TypeId) (x : AV) : aload P σ ty x = loadT (tsz P ty) (acells σ x) := by
  unfold aload loadT; cases tsz P ty with
  | none => rfl
  | some p => rfl
theorem loadT_one (n : Nat) (c : AV) (r : List AV) : loadT (some (n, false)) (some (c :: r)) = some c := rfl
theorem loadT_agg (n : Nat) (cs : List AV) : loadT (some (n, true)) (some cs) = if n ≤ cs.length then some (.agg (cs.take n)) else none := rfl
theorem loadT_some (n : Nat) (cs : List AV) : loadT (some (n, false)) (some cs) = cs[0]? := rfl
theorem acells_ptr (σ : H) (b o : Nat) : acells σ (.v (.pointer (some ⟨b, o, none⟩))) = cellsIn (σ b) o := by
  simp only [acells, cellsIn]; cases σ b with
  | none => rfl
  | some x => cases x <;> rfl
theorem cellsIn_st (cs : List AV) (o : Nat) : cellsIn (some (.st cs)) o = some (cs.drop o) := rfl
theorem acells_elt (σ : H) (cs : List AV) : acells σ (.elt cs) = some cs := rfl
theorem acells_at (σ : H) (b i j sz : Nat) : acells σ (.at b i j sz) = rowIn (σ b) i j sz := by
  simp only [acells, rowIn]; cases σ b with
  | none => rfl
  | some x => cases x <;> rfl
theorem rowIn_rows (e : TypeId) (sz : Nat) (xs : List (List AV)) (i j : Nat) : rowIn (some (.rows e sz xs)) i j sz = (xs[i]?).map (·.drop j) := by simp [rowIn]
theorem astore_ptr (σ : H) (b o : Nat) (cs : List AV) : astore σ (.v (.pointer (some ⟨b, o, none⟩))) cs = storeIn σ b (σ b) o cs := by
  simp only [astore, storeIn]; cases σ b with
  | none => rfl
  | some x => cases x <;> rfl
theorem storeIn_st (σ : H) (b o : Nat) (old cs : List AV) : storeIn σ b (some (.st old)) o cs = if o + cs.length ≤ old.length then some (σ.upd b (.st (splice old o cs))) else none := rfl
theorem astore_at (σ : H) (b i j sz : Nat) (cs : List AV) : astore σ (.at b i j sz) cs = storeRow σ b (σ b) i j sz cs := by
  simp only [astore, storeRow, storeR]; cases σ b with
  | none => rfl
  | some x => cases x <;> rfl
theorem storeRow_rows (σ : H) (b i j sz : Nat) (e : TypeId) (xs : List (List AV)) (cs : List AV) : storeRow σ b (some (.rows e sz xs)) i j sz cs = storeR σ b e sz xs i j cs (xs[i]?) := by
  simp [storeRow, storeR]
theorem storeR_some (σ : H) (b i j sz : Nat) (e : TypeId) (xs : List (List AV)) (cs r : List AV) : storeR σ b e sz xs i j cs (some r) = if j + cs.length ≤ r.length then some (σ.upd b (.rows e sz (xs.set i (splice r j cs)))) else none := rfl
theorem upd_upd (σ : H) (b : Nat) (o o' : AObj) : (σ.upd b o).upd b o' = σ.upd b o' := by
  funext c; unfold H.upd; split <;> rfl
theorem upd_comm (σ : H) {b c : Nat} (h : b ≠ c) (o o' : AObj) : (σ.upd b o).upd c o' = (σ.upd c o').upd b o := by
  funext d; unfold H.upd; split <;> split <;> simp_all
theorem upd_none_iff (σ : H) (b c : Nat) (o : AObj) : (σ.upd b o c = none) = (c ≠ b ∧ σ c = none) := by
  unfold H.upd; by_cases h : c = b <;> simp [h]
/-- A block that has been let go. -/
theorem sub_upd {σ : H} {b : Nat} {o : AObj} (h : σ b = none) : ∀ c x, σ c = some x → σ.upd b o c = some x := by
  intro c x hc
  rw [upd_ne]; exact hc
  rintro rfl; rw [h] at hc; cases hc
theorem aindex_map {α : Type} {ty : TypeId} {q : Nat} (ht : tel P ty = some (q, none)) {xs : List α} {f : α → List AV} {k : Nat} {x : α} (hx : xs[k]? = some x) (hq : (f x).length = q) {K : AV → Prop} (hk : K (.elt (f x))) :
    aindex P ty (.ro (xs.map f)) k K := by
  unfold aindex
  rw [ht]
  simp only [List.length_map]
  refine ⟨(List.getElem?_eq_some_iff.1 hx).1, fun r hr => ?_⟩
  rw [List.getElem?_map, hx] at hr
  cases hr
  exact ⟨hq, hk⟩
theorem sbT {Q : Prop} [Decidable Q] (h : Q) : some (AV.v (.bool true)) = some (AV.v (.bool (decide Q))) := by rw [decide_eq_true h]
theorem sbF {Q : Prop} [Decidable Q] (h : ¬ Q) : some (AV.v (.bool false)) = some (AV.v (.bool (decide Q))) := by rw [decide_eq_false h]
theorem sbD {R Q : Prop} [Decidable R] [Decidable Q] (h : R ↔ Q) : some (AV.v (.bool (decide R))) = some (AV.v (.bool (decide Q))) := by rw [decide_eq_decide.2 h]
theorem sbN {R Q : Prop} [Decidable R] [Decidable Q] (h : ¬ R ↔ Q) : some (AV.v (.bool (!decide R))) = some (AV.v (.bool (decide Q))) := by rw [← decide_not, decide_eq_decide.2 h]
theorem sub_upd' {σ σ1 : H} {b : Nat} {o : AObj} (h : σ b = none) (hs : ∀ c x, σ c = some x → σ1 c = some x) : ∀ c x, σ c = some x → σ1.upd b o c = some x := by
  intro c x hc
  rw [upd_ne]; exact hs c x hc
  rintro rfl; rw [h] at hc; cases hc
theorem upd_none {σ : H} {b c : Nat} {o : AObj} (h : c ≠ b) (h' : σ c = none) : σ.upd b o c = none := by rw [upd_ne _ _ h]; exact h'
theorem aindex_eq (ty : TypeId) (x : AV) (k : Nat) (K : AV → Prop) : aindex P ty x k K = aixT (tel P ty) x k (holdK K (mkH _)) := by
  unfold aindex aixT holdK
  cases tel P ty with
  | none => rfl
  | some p => obtain ⟨q, m⟩ := p; cases m <;> rfl
theorem aixT_arr (q n b o k : Nat) (K : AV → Prop) : aixT (some (q, some n)) (.v (.pointer (some ⟨b, o, none⟩))) k K = (k < n ∧ K (.v (.pointer (some ⟨b, o + k * q, none⟩)))) := rfl
theorem aixT_arrElt (q n k : Nat) (cs : List AV) (K : AV → Prop) : aixT (some (q, some n)) (.elt cs) k K = (k < n ∧ K (.elt (cs.drop (k * q)))) := rfl
theorem aixT_arrAt (q n k b i j sz : Nat) (K : AV → Prop) : aixT (some (q, some n)) (.at b i j sz) k K = (k < n ∧ K (.at b i (j + k * q) sz)) := rfl
theorem aixT_sl (q b len sz : Nat) (e : TypeId) (k : Nat) (K : AV → Prop) : aixT (some (q, none)) (.sl b len sz e) k K = (k < len ∧ sz = q ∧ K (.at b k 0 sz)) := rfl
theorem aixT_win (q b off len sz : Nat) (k : Nat) (K : AV → Prop) : aixT (some (q, none)) (.win b off len sz) k K = (k < len ∧ sz = q ∧ K (.at b (off + k) 0 sz)) := rfl
theorem aix_map {α : Type} {q : Nat} {xs : List α} {f : α → List AV} {k : Nat} {x : α} (hx : xs[k]? = some x) (hq : (f x).length = q) {K : AV → Prop} (hk : K (.elt (f x))) :
    aixT (some (q, none)) (.ro (xs.map f)) k K := by
  unfold aixT
  simp only [List.length_map]
  refine ⟨(List.getElem?_eq_some_iff.1 hx).1, fun r hr => ?_⟩
  rw [List.getElem?_map, hx] at hr
  cases hr
  exact ⟨hq, hk⟩
theorem AAppend_of {ty e : TypeId} {q by_ : Nat} {z : List AV} (h1 : tel P ty = some (q, none)) (h2 : tbytes P ty = some (e, by_)) (h3 : tzero P e = some z) (hz : z.length = q) (hq : 0 < q) (σ0 : H) {σ : H} {x y : AV} {xs rs : List (List AV)}
    (hOS : OS e q σ0 σ x xs) (hr : arows σ y = some rs) (hrs : ∀ r ∈ rs, r.length = q) (hl : xs.length + rs.length ≤ 9223372036854775807) (hb : (xs.length + rs.length) * by_ ≤ 140737488355328) {K : AV → H → Prop}
    (hk : ∀ x' σ', OS e q σ0 σ' x' (xs ++ rs) → K x' σ') : AAppend P ty σ x y K := by
  refine ⟨σ0, xs, rs, ?_⟩
  rw [h1, h2]
  simp only [h3]
  exact ⟨hz, hq, hOS, hr, hrs, hl, hb, .inl hk⟩
theorem OS.over {e : TypeId} {q bm : Nat} {σb σ1 : H} {y : AV} {xs : List (List AV)} {M : AObj} (h : OS e q σb σ1 y xs) (h1 : σ1 bm = none) : OS e q (σb.upd bm M) (σ1.upd bm M) y xs := by
  rcases h with ⟨hy, ho, rfl⟩ | ⟨bo, h9, hy, rfl⟩
  · exact .inl ⟨hy, ho, rfl⟩
  · have h10 : bo ≠ bm := by rintro rfl; rw [upd_same] at h1; cases h1
    exact .inr ⟨bo, upd_none h10 h9, hy, upd_comm _ h10 _ _⟩
theorem OS.back {e : TypeId} {q bm : Nat} {σb σ' : H} {y : AV} {xs : List (List AV)} {M : AObj} (h : OS e q (σb.upd bm M) σ' y xs) (hb : σb bm = none) :
    ∃ σ1, OS e q σb σ1 y xs ∧ σ1 bm = none ∧ σ' = σ1.upd bm M := by
  rcases h with ⟨hy, ho, rfl⟩ | ⟨bo, h9, hy, rfl⟩
  · exact ⟨σb, .inl ⟨hy, ho, rfl⟩, hb, rfl⟩
  · rw [upd_none_iff] at h9
    exact ⟨_, .inr ⟨bo, h9.2, hy, rfl⟩, upd_none (Ne.symm h9.1) hb, upd_comm _ (Ne.symm h9.1) _ _⟩
theorem OS.single {e : TypeId} {q : Nat} {σ0 σ1 : H} {y : AV} {xs : List (List AV)} (h : OS e q σ0 σ1 y xs) : y.cells = [y] ∧ y.one = true := by
  rcases h with ⟨rfl, _, _⟩ | ⟨_, _, rfl, _⟩ <;> exact ⟨rfl, rfl⟩
theorem ASlice_ro {ty : TypeId} {q : Nat} (ht : tel P ty = some (q, none)) {xs : List (List AV)} (hq : ∀ r ∈ xs, r.length = q) {l h : Nat} (h1 : l ≤ h) (h2 : h ≤ xs.length) {K : AV → Prop} (hk : K (.ro ((xs.take h).drop l))) : ASlice P ty (.ro xs) l h K := by
  unfold ASlice; rw [ht]; exact ⟨hq, h1, h2, hk⟩
theorem vcSlice_lo {ty : TypeId} {q : Nat} (ht : tel P ty = some (q, none)) {xs : List (List AV)} (hq : ∀ r ∈ xs, r.length = q) {d : Option TypeDesc} {k : IntKind} {l : Int} (h0 : 0 ≤ l) (h1 : l ≤ xs.length) {K : AV → Prop} (hk : K (.ro (xs.drop l.toNat))) :
    vcSlice P ty (.ro xs) d (some (some (.v (.int k l)))) none K := by
  unfold vcSlice
  simp only [alen]
  refine ⟨h0, by omega, ASlice_ro ht hq (by omega) (by omega) ?_⟩
  rw [List.take_of_length_le (by omega)]; exact hk
theorem vcSlice_hi {ty : TypeId} {q : Nat} (ht : tel P ty = some (q, none)) {xs : List (List AV)} (hq : ∀ r ∈ xs, r.length = q) {d : Option TypeDesc} {k : IntKind} {l : Int} (h0 : 0 ≤ l) (h1 : l ≤ xs.length) {K : AV → Prop} (hk : K (.ro (xs.take l.toNat))) :
    vcSlice P ty (.ro xs) d none (some (some (.v (.int k l)))) K := by
  unfold vcSlice
  exact ⟨h0, ASlice_ro ht hq (by omega) (by omega) hk⟩
theorem vcSlice_lh {ty : TypeId} {q : Nat} (ht : tel P ty = some (q, none)) {xs : List (List AV)} (hq : ∀ r ∈ xs, r.length = q) {d : Option TypeDesc} {k k' : IntKind} {l m : Int} (h0 : 0 ≤ l) (hm : l ≤ m) (h1 : m ≤ xs.length) {K : AV → Prop} (hk : K (.ro ((xs.take m.toNat).drop l.toNat))) :
    vcSlice P ty (.ro xs) d (some (some (.v (.int k l)))) (some (some (.v (.int k' m)))) K := by
  unfold vcSlice
  exact ⟨h0, by omega, ASlice_ro ht hq (by omega) (by omega) hk⟩
theorem arows_ro (σ : H) (xs : List (List AV)) : arows σ (.ro xs) = some xs := rfl
theorem pickK_true (x y : Option AV) (K : AV → Prop) : pickK true x y K = oneO x K := by
  unfold pickK; split <;> simp [oneO]
theorem pickK_false (x y : Option AV) (K : AV → Prop) : pickK false x y K = oneO y K := by
  unfold pickK; split <;> simp [oneO]
theorem pickK_bool (a b : Bool) (K : AV → Prop) (q : Bool) : pickK q (some (.v (.bool a))) (some (.v (.bool b))) K = K (.v (.bool (cond q a b))) := rfl

/-! two operands -/
theorem abin_add (ty : TypeId) (k : IntKind) (a b : Int) : abin P .add ty (.v (.int k a)) (.v (.int k b)) = some (True, .v (.int k (k.wrap (a + b)))) := by simp [abin, abinV]
theorem abin_sub (ty : TypeId) (k : IntKind) (a b : Int) : abin P .sub ty (.v (.int k a)) (.v (.int k b)) = some (True, .v (.int k (k.wrap (a - b)))) := by simp [abin, abinV]
theorem abin_mul (ty : TypeId) (k : IntKind) (a b : Int) : abin P .mul ty (.v (.int k a)) (.v (.int k b)) = some (True, .v (.int k (k.wrap (a * b)))) := by simp [abin, abinV]
theorem abin_quo (ty : TypeId) (k : IntKind) (a b : Int) : abin P .quo ty (.v (.int k a)) (.v (.int k b)) = some (b ≠ 0, .v (.int k (k.wrap (a.tdiv b)))) := by simp [abin, abinV]
theorem abin_rem (ty : TypeId) (k : IntKind) (a b : Int) : abin P .rem ty (.v (.int k a)) (.v (.int k b)) = some (b ≠ 0, .v (.int k (a.tmod b))) := by simp [abin, abinV]
theorem abin_and (ty : TypeId) (k : IntKind) (a b : Int) : abin P .and ty (.v (.int k a)) (.v (.int k b)) = some (True, .v (.int k (k.wrap (BitVec.ofInt k.bits a &&& BitVec.ofInt k.bits b).toNat))) := by simp [abin, abinV]
theorem abin_or (ty : TypeId) (k : IntKind) (a b : Int) : abin P .or ty (.v (.int k a)) (.v (.int k b)) = some (True, .v (.int k (k.wrap (BitVec.ofInt k.bits a ||| BitVec.ofInt k.bits b).toNat))) := by simp [abin, abinV]
theorem abin_xor (ty : TypeId) (k : IntKind) (a b : Int) : abin P .xor ty (.v (.int k a)) (.v (.int k b)) = some (True, .v (.int k (k.wrap (BitVec.ofInt k.bits a ^^^ BitVec.ofInt k.bits b).toNat))) := by simp [abin, abinV]
theorem abin_andNot (ty : TypeId) (k : IntKind) (a b : Int) : abin P .andNot ty (.v (.int k a)) (.v (.int k b)) = some (True, .v (.int k (k.wrap (BitVec.ofInt k.bits a &&& ~~~ BitVec.ofInt k.bits b).toNat))) := by simp [abin, abinV]
theorem abin_shl (ty : TypeId) (k k' : IntKind) (a b : Int) : abin P .shl ty (.v (.int k a)) (.v (.int k' b)) = some (0 ≤ b, .v (.int k (k.wrap (a * 2 ^ (min b.toNat k.bits))))) := by simp [abin, abinV]
theorem abin_shr (ty : TypeId) (k k' : IntKind) (a b : Int) : abin P .shr ty (.v (.int k a)) (.v (.int k' b)) = some (0 ≤ b, .v (.int k (a.fdiv (2 ^ (min b.toNat k.bits))))) := by simp [abin, abinV]
theorem abin_eql (ty : TypeId) (k : IntKind) (a b : Int) : abin P .eql ty (.v (.int k a)) (.v (.int k b)) = some (True, .v (.bool (decide (a = b)))) := by
  simp only [abin, abinV]; simp [BEq.beq]
theorem abin_neq (ty : TypeId) (k : IntKind) (a b : Int) : abin P .neq ty (.v (.int k a)) (.v (.int k b)) = some (True, .v (.bool (!decide (a = b)))) := by
  simp only [abin, abinV]; simp [bne, BEq.beq]
theorem abin_lss (ty : TypeId) (k : IntKind) (a b : Int) : abin P .lss ty (.v (.int k a)) (.v (.int k b)) = some (True, .v (.bool (decide (a < b)))) := by simp [abin, abinV]
theorem abin_leq (ty : TypeId) (k : IntKind) (a b : Int) : abin P .leq ty (.v (.int k a)) (.v (.int k b)) = some (True, .v (.bool (decide (a ≤ b)))) := by simp [abin, abinV]
theorem abin_gtr (ty : TypeId) (k : IntKind) (a b : Int) : abin P .gtr ty (.v (.int k a)) (.v (.int k b)) = some (True, .v (.bool (decide (b < a)))) := by simp [abin, abinV]
theorem abin_geq (ty : TypeId) (k : IntKind) (a b : Int) : abin P .geq ty (.v (.int k a)) (.v (.int k b)) = some (True, .v (.bool (decide (b ≤ a)))) := by simp [abin, abinV]
theorem abin_seq (ty : TypeId) (a b : ByteArray) : abin P .eql ty (.v (.string a)) (.v (.string b)) = some (True, .v (.bool (a.toList == b.toList))) := by simp [abin, abinV]
theorem abin_sne (ty : TypeId) (a b : ByteArray) : abin P .neq ty (.v (.string a)) (.v (.string b)) = some (True, .v (.bool (!(a.toList == b.toList)))) := by simp [abin, abinV]
theorem abin_beq (ty : TypeId) (a b : Bool) (h : P.underlying ty = some .bool) : abin P .eql ty (.v (.bool a)) (.v (.bool b)) = some (True, .v (.bool (a == b))) := by simp [abin, h]
theorem abin_bne (ty : TypeId) (a b : Bool) (h : P.underlying ty = some .bool) : abin P .neq ty (.v (.bool a)) (.v (.bool b)) = some (True, .v (.bool (a != b))) := by simp [abin, h]

def isPtr (P : Program) (t : TypeId) : Bool := match P.underlying t with | some (.pointer _) => true | _ => false
def isSli (P : Program) (t : TypeId) : Bool := match P.underlying t with | some (.slice _) => true | _ => false
theorem isPtr_spec {t : TypeId} (h : isPtr P t = true) : ∃ e, P.underlying t = some (.pointer e) := by
  unfold isPtr at h; split at h <;> first | exact ⟨_, by assumption⟩ | cases h
theorem isSli_spec {t : TypeId} (h : isSli P t = true) : ∃ e, P.underlying t = some (.slice e) := by
  unfold isSli at h; split at h <;> first | exact ⟨_, by assumption⟩ | cases h
theorem abin_eql_nil {ty : TypeId} (h : isPtr P ty = true) : abin P .eql ty (.v (.pointer none)) (.v (.pointer none)) = some (True, .v (.bool true)) := by
  obtain ⟨e, he⟩ := isPtr_spec h
  simp [abin, he, isAddr]
theorem abin_eql_ptr (a : Addr) {ty : TypeId} (h : isPtr P ty = true) : abin P .eql ty (.v (.pointer (some a))) (.v (.pointer none)) = some (True, .v (.bool false)) := by
  obtain ⟨e, he⟩ := isPtr_spec h
  simp [abin, he, isAddr]
theorem abin_eql_elt (cs : List AV) {ty : TypeId} (h : isPtr P ty = true) : abin P .eql ty (.elt cs) (.v (.pointer none)) = some (True, .v (.bool false)) := by
  obtain ⟨e, he⟩ := isPtr_spec h
  simp [abin, he, isAddr]
theorem abin_eql_at (b i j sz : Nat) {ty : TypeId} (h : isPtr P ty = true) : abin P .eql ty (.at b i j sz) (.v (.pointer none)) = some (True, .v (.bool false)) := by
  obtain ⟨e, he⟩ := isPtr_spec h
  simp [abin, he, isAddr]
theorem abin_eql_sv (a : Option Addr) (l c : Nat) {ty : TypeId} (h : isSli P ty = true) : abin P .eql ty (.v (.slice a l c)) (.v (.slice none 0 0)) = some (True, .v (.bool (a.isNone))) := by
  obtain ⟨e, he⟩ := isSli_spec h
  simp [abin, he, isSome']
theorem abin_eql_ssl (b n sz : Nat) (e : TypeId) {ty : TypeId} (h : isSli P ty = true) : abin P .eql ty (.sl b n sz e) (.v (.slice none 0 0)) = some (True, .v (.bool (false))) := by
  obtain ⟨e, he⟩ := isSli_spec h
  simp [abin, he, isSome']
theorem abin_eql_sro (r : List AV) (rs : List (List AV)) {ty : TypeId} (h : isSli P ty = true) : abin P .eql ty (.ro (r :: rs)) (.v (.slice none 0 0)) = some (True, .v (.bool (false))) := by
  obtain ⟨e, he⟩ := isSli_spec h
  simp [abin, he, isSome']
theorem abin_neq_nil {ty : TypeId} (h : isPtr P ty = true) : abin P .neq ty (.v (.pointer none)) (.v (.pointer none)) = some (True, .v (.bool false)) := by
  obtain ⟨e, he⟩ := isPtr_spec h
  simp [abin, he, isAddr]
theorem abin_neq_ptr (a : Addr) {ty : TypeId} (h : isPtr P ty = true) : abin P .neq ty (.v (.pointer (some a))) (.v (.pointer none)) = some (True, .v (.bool true)) := by
  obtain ⟨e, he⟩ := isPtr_spec h
  simp [abin, he, isAddr]
theorem abin_neq_elt (cs : List AV) {ty : TypeId} (h : isPtr P ty = true) : abin P .neq ty (.elt cs) (.v (.pointer none)) = some (True, .v (.bool true)) := by
  obtain ⟨e, he⟩ := isPtr_spec h
  simp [abin, he, isAddr]
theorem abin_neq_at (b i j sz : Nat) {ty : TypeId} (h : isPtr P ty = true) : abin P .neq ty (.at b i j sz) (.v (.pointer none)) = some (True, .v (.bool true)) := by
  obtain ⟨e, he⟩ := isPtr_spec h
  simp [abin, he, isAddr]
theorem abin_neq_sv (a : Option Addr) (l c : Nat) {ty : TypeId} (h : isSli P ty = true) : abin P .neq ty (.v (.slice a l c)) (.v (.slice none 0 0)) = some (True, .v (.bool (a.isSome))) := by
  obtain ⟨e, he⟩ := isSli_spec h
  simp [abin, he, isSome']
theorem abin_neq_ssl (b n sz : Nat) (e : TypeId) {ty : TypeId} (h : isSli P ty = true) : abin P .neq ty (.sl b n sz e) (.v (.slice none 0 0)) = some (True, .v (.bool (true))) := by
  obtain ⟨e, he⟩ := isSli_spec h
  simp [abin, he, isSome']
theorem abin_neq_sro (r : List AV) (rs : List (List AV)) {ty : TypeId} (h : isSli P ty = true) : abin P .neq ty (.ro (r :: rs)) (.v (.slice none 0 0)) = some (True, .v (.bool (true))) := by
  obtain ⟨e, he⟩ := isSli_spec h
  simp [abin, he, isSome']
/-! operations -/
section
variable {d : Option Tmp} {ty' : TypeId} {pos : String} {af : Array Edge} {g : Option (Nat × Bool)}
theorem op_move (x : Operand) : vcOp P rob ⟨d, .move x, ty', pos, af, g⟩ t σ K Kp = oneP (aeval t x) fun y => K y σ := rfl
theorem op_assign (x : Operand) : vcOp P rob ⟨d, .assign x, ty', pos, af, g⟩ t σ K Kp = oneP (aeval t x) fun y => K y σ := rfl
theorem op_pick (c a b : Operand) : vcOp P rob ⟨d, .pick c a b, ty', pos, af, g⟩ t σ K Kp = one t c fun q => (match q with
    | .v (.bool q) => pickK q (aeval t a) (aeval t b) fun y => K y σ
    | _ => False) := rfl
theorem op_load (ty : TypeId) (x : Operand) : vcOp P rob ⟨d, .load ty x, ty', pos, af, g⟩ t σ K Kp = one t x fun y => oneP (aload P σ ty y) fun z => K z σ := rfl
theorem op_store (ty : TypeId) (x y : Operand) : vcOp P rob ⟨d, .store ty x y, ty', pos, af, g⟩ t σ K Kp = one t x fun p => one t y fun z => (match tsz P ty, astore σ p z.cells with
    | some (n, _), some σ' => z.cells.length = n ∧ z.cells.all AV.one = true ∧ K (.v undef) σ'
    | _, _ => False) := rfl
theorem op_box (ty : TypeId) (x : Operand) : vcOp P rob ⟨d, .box ty x, ty', pos, af, g⟩ t σ K Kp = one t x fun y => y.cells.all AV.one = true ∧
      (if rob (d.getD 0) then K (.elt y.cells) σ else ∀ b, σ b = none → K (.v (.pointer (some ⟨b, 0, none⟩))) (σ.upd b (.st y.cells))) := rfl
theorem op_alloc (ty : TypeId) : vcOp P rob ⟨d, .alloc ty, ty', pos, af, g⟩ t σ K Kp = (match tzero P ty with
    | some cs => if rob (d.getD 0) then K (.elt cs) σ else ∀ b, σ b = none → K (.v (.pointer (some ⟨b, 0, none⟩))) (σ.upd b (.st cs))
    | none => False) := rfl
theorem op_build (ty : TypeId) (ps : List (Nat × Operand)) : vcOp P rob ⟨d, .build ty ps.toArray, ty', pos, af, g⟩ t σ K Kp = (match aparts t ps with
    | some ps => oneP (abuild P ty ps) fun y => K y σ
    | none => False) := rfl
theorem op_buildSlice (ty : TypeId) (len : Nat) (ps : List (Nat × Operand)) : vcOp P rob ⟨d, .buildSlice ty len ps.toArray, ty', pos, af, g⟩ t σ K Kp = (match tel P ty, tbytes P ty, aparts t ps with
    | some (q, none), some (e, _), some ps => (match tzero P e, alit q 0 ps with
      | some z, some rows => z.length = q ∧ rows.length = len ∧ len * q ≤ 16777216 ∧ len ≤ 9223372036854775807 ∧
        (if rob (d.getD 0) then K (.ro rows) σ else ∀ b, σ b = none → K (.sl b len q e) (σ.upd b (.rows e q rows)))
      | _, _ => False)
    | _, _, _ => False) := rfl
theorem op_nilCheck (x : Operand) : vcOp P rob ⟨d, .nilCheck x, ty', pos, af, g⟩ t σ K Kp = one t x fun y => (match y with
    | .v (.pointer (some _)) => K y σ
    | .v (.func (.func _) _ _) => K y σ
    | .v (.iface _ _) => K y σ
    | .at .. => K y σ
    | .elt _ => K y σ
    | _ => False) := rfl
theorem op_binOp (op : BinOp) (ty : TypeId) (x y : Operand) (z : TypeId) : vcOp P rob ⟨d, .binOp op ty x y z, ty', pos, af, g⟩ t σ K Kp = one t x fun a => one t y fun b => (match abin P op ty a b with | some (c, z) => c ∧ K z σ | none => False) := rfl
theorem op_unOp (op : UnOp) (ty : TypeId) (x : Operand) : vcOp P rob ⟨d, .unOp op ty x, ty', pos, af, g⟩ t σ K Kp = one t x fun a => oneP (aun op a) fun z => K z σ := rfl
theorem op_convert (src dst : TypeId) (x : Operand) : vcOp P rob ⟨d, .convert src dst x, ty', pos, af, g⟩ t σ K Kp = one t x fun a => oneP (aconv P src dst a) fun z => (P.underlying src).isSome = true ∧ K z σ := rfl
theorem op_makeInterface (ty : TypeId) (x : Operand) : vcOp P rob ⟨d, .makeInterface ty x, ty', pos, af, g⟩ t σ K Kp = one t x fun a => (match toV a, P.underlying ty with
    | some v, some d => (match d with | .interface _ => False | _ => K (.v (.iface ty v)) σ)
    | _, _ => False) := rfl
theorem op_makeFunc (fn : Fn) (first captured : Array Operand) : vcOp P rob ⟨d, .makeFunc fn first captured, ty', pos, af, g⟩ t σ K Kp = (match aargs t first.toList, aargs t captured.toList with
    | some fs, some cs => (match fs.mapM toV, cs.mapM toV with
      | some f, some c => K (.v (.func fn f.toArray c.toArray)) σ
      | _, _ => False)
    | _, _ => False) := rfl
theorem op_makeSlice (ty : TypeId) (l c : Operand) : vcOp P rob ⟨d, .makeSlice ty l c, ty', pos, af, g⟩ t σ K Kp = one t l fun a => one t c fun b => (match a, b with
    | .v (.int _ n), .v (.int _ m) => AMake P ty σ n m K
    | _, _ => False) := rfl
theorem op_slice (ty : TypeId) (x : Operand) (lo hi : Option Operand) : vcOp P rob ⟨d, .slice ty x lo hi none, ty', pos, af, g⟩ t σ K Kp = one t x fun y => vcSlice P ty y (P.underlying ty) (lo.map (aeval t)) (hi.map (aeval t)) fun z => K z σ := rfl
theorem op_fieldAddr (s : TypeId) (x : Operand) (f : Nat) : vcOp P rob ⟨d, .fieldAddr s x f, ty', pos, af, g⟩ t σ K Kp = one t x fun y => (match tfoff P s f with
    | some n => oneP (padd y n) fun z => K z σ
    | none => False) := rfl
theorem op_field (ty : TypeId) (x : Operand) (f : Nat) : vcOp P rob ⟨d, .field ty x f, ty', pos, af, g⟩ t σ K Kp = one t x fun y => oneP (afield P ty f y) fun z => K z σ := rfl
theorem op_indexAddr (ty : TypeId) (x i : Operand) : vcOp P rob ⟨d, .indexAddr ty x i, ty', pos, af, g⟩ t σ K Kp = one t x fun y => one t i fun k => (match k with
    | .v (.int _ n) => 0 ≤ n ∧ aindex P ty y n.toNat fun z => K z σ
    | _ => False) := rfl
theorem op_index (ty : TypeId) (x i : Operand) : vcOp P rob ⟨d, .index ty x i, ty', pos, af, g⟩ t σ K Kp = one t x fun y => one t i fun k => (match aidx P ty y k with | some (c, z) => c ∧ K z σ | none => False) := rfl
theorem op_extract (x : Operand) (i : Nat) : vcOp P rob ⟨d, .extract x i, ty', pos, af, g⟩ t σ K Kp = one t x fun y => (match y with
    | .tup vs => oneP (vs[i]?) fun z => K z σ
    | _ => False) := rfl
theorem op_panic (x : Operand) : vcOp P rob ⟨d, .panic x, ty', pos, af, g⟩ t σ K Kp = one t x fun y => (match y with
    | .v (.iface ty v) => Kp (.iface ty v) σ
    | _ => False) := rfl
/-- A call with known arguments. -/
def doCall (P : Program) (callee : Callee) (tys : Array TypeId) (t : T) (as : Option (List AV)) (σ : H) (K : AV → H → Prop) (Kp : Value → H → Prop) : Prop :=
  match as with
  | none => False
  | some as => match callee with
    | .builtin b => vcBuiltin P b tys.toList as σ K
    | .value f => one t f fun g => (match g with
      | .v (.func (.func n) first captured) => ACalls P n (first.toList.map .v ++ as ++ captured.toList.map .v) σ (endK K Kp)
      | _ => False)
    | .invoke r name => one t r fun g => (match g with
      | .v (.iface ty x) => ∃ f x', (∀ w, (method (P.types.size + Made.depth) ty x name).run P w = .ok (f, x') w) ∧ ACalls P f (.v x' :: as) σ (endK K Kp)
      | _ => False)
theorem op_call (callee : Callee) (args : List Operand) (tys : Array TypeId) :
    vcOp P rob ⟨d, .call ⟨callee, args.toArray, tys⟩, ty', pos, af, g⟩ t σ K Kp = doCall P callee tys t (aargs t args) σ K Kp := rfl
theorem doCall_builtin (b : Builtin) (tys : List TypeId) (as : List AV) : doCall P (.builtin b) tys.toArray t (some as) σ K Kp = vcBuiltin P b tys as σ K := rfl
theorem doCall_func (f : FuncId) (tys : Array TypeId) (as : List AV) : doCall P (.value (.func f)) tys t (some as) σ K Kp = ACalls P f as σ (endK K Kp) := by
  simp [doCall, one, aeval]
theorem doCall_value (i : Tmp) (tys : Array TypeId) (as : List AV) : doCall P (.value (.tmp i)) tys t (some as) σ K Kp = oneP (t.get i) fun g => (match g with
      | .v (.func (.func n) first captured) => ACalls P n (first.toList.map .v ++ as ++ captured.toList.map .v) σ (endK K Kp)
      | _ => False) := rfl
end
/-- A function's contract by working out its code. -/
theorem acalls_go (cf : Cfg) (n : Nat) (rs : List ResultVar) {f : FuncId} {fn : Func} {c : Code} {as : List AV} {R : AEnd → H → Prop} (hm : P.follows .mixedOrders = true) (hf : P.funcs[f]? = some fn) (hname : (fn.name == "runtime.NumGoroutine") = false)
    (hb : fn.body = some c) (hok : okCode cf.pl c = true) (hn : fn.ntmps = n) (hlen : as.length ≤ n) (hrs : fn.results.toList = rs := by rfl) (h : vc P n cf c (bodyQ P rs (holdK R (mkH _))) (targs 0 as) σ) : ACalls P f as σ R := by
  subst hn; subst hrs
  exact acalls_of_vc cf hm hf hb hname hok hlen h
end
end Go.Ag
