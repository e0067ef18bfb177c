/- A part of the proof: A11. -/
import Derived.Test.YtlchnjgnfomiaaaA15
set_option linter.unusedSimpArgs false
set_option linter.unusedVariables false
namespace Go.Ag
open Go

/-! ### The results, and a function as a whole -/
def ares (P : Program) (t : T) (σ : H) : List ResultVar → Option (List AV)
  | [] => some []
  | .tmp i :: r => match t.get i, ares P t σ r with
    | some y, some ys => some (y :: ys)
    | _, _ => none
  | .cell i ty :: r => match t.get i with
    | some p => (match aload P σ ty p, ares P t σ r with
      | some y, some ys => some (y :: ys)
      | _, _ => none)
    | none => none
def aret : List AV → AV
  | [y] => y
  | ys => .tup ys

/-- What is asked at a function's end. -/
def bodyQ (P : Program) (rs : List ResultVar) (R : AEnd → H → Prop) : AQ
  | .normal, t, σ => ∃ ys, ares P t σ rs = some ys ∧ ∃ σ' y, FrzH σ σ' ∧ Frz σ σ' (aret ys) y ∧ R (.ret y) σ'
  | .ret, t, σ => ∃ ys, ares P t σ rs = some ys ∧ ∃ σ' y, FrzH σ σ' ∧ Frz σ σ' (aret ys) y ∧ R (.ret y) σ'
  | .pan v, _, σ => ∃ σ', FrzH σ σ' ∧ R (.pan v) σ'
  | _, _, _ => False

def targs : Nat → List AV → T
  | _, [] => []
  | k, x :: r => (k, x) :: targs (k + 1) r

theorem targs_get : ∀ (as : List AV) (k i : Nat) (x : AV), (targs k as).get i = some x → k ≤ i ∧ as[i - k]? = some x
  | [], k, i, x, h => by cases h
  | y :: r, k, i, x, h => by
    simp only [targs, T.get] at h
    split at h
    · rename_i hk; subst hk; cases h; simp
    · rename_i hk
      obtain ⟨h1, h2⟩ := targs_get r (k + 1) i x h
      refine ⟨by omega, ?_⟩
      rw [show i - k = (i - (k + 1)) + 1 by omega, List.getElem?_cons_succ]
      exact h2

section
variable {P : Program} {σ : H} {w : World}

theorem aret_sound {D : Nat → Prop} {ys : List AV} {vs : Array Value} (h : AR w D ys vs) : VR w D (aret ys) (if h : vs.size = 1 then vs[0] else .tuple vs) := by
  match ys, h with
  | [], h =>
    have h0 : vs.size = 0 := by simpa using h.len.symm
    rw [dif_neg (by omega)]
    exact .tup [] vs (by simpa using h0.symm) (by simp)
  | [y], h =>
    have h0 : vs.size = 1 := by simpa using h.len.symm
    rw [dif_pos h0]
    exact h.rel 0 y _ rfl (Array.getElem?_eq_getElem (by omega))
  | y :: z :: r, h =>
    have h0 : vs.size = r.length + 2 := by simpa using h.len.symm
    rw [dif_neg (by omega)]
    exact .tup _ vs h.len h.rel

/-- One result. -/
def rv (tmps : Array Value) : ResultVar → Sem Value
  | .tmp t => pure (tmps.getD t undef)
  | .cell a t => do loadVar t (← asAddr (tmps.getD a undef))
theorem results_rv (fn : Func) (tmps : Array Value) : results fn tmps = (do let vs ← fn.results.mapM (rv tmps); pure (if h : vs.size = 1 then vs[0] else .tuple vs)) := rfl

theorem ares_run (hR : HR σ w) {t : T} {tmps : Array Value} (hT : TR t tmps w (dom σ)) : ∀ (rs : List ResultVar) (ys : List AV), ares P t σ rs = some ys →
    ∃ vs : List Value, (rs.mapM (rv tmps)).run P w = .ok vs w ∧ AR w (dom σ) ys vs.toArray
  | [], ys, h => by simp only [ares, Option.some.injEq] at h; subst h; exact ⟨[], rfl, rfl, by simp⟩
  | .tmp i :: r, ys, h => by
    simp only [ares] at h
    split at h <;> try (cases h; done)
    rename_i y ys' hy hys
    cases h
    obtain ⟨vs, h1, h2⟩ := ares_run hR hT r ys' hys
    obtain ⟨v, hv1, hv2⟩ := hT i y hy
    refine ⟨v :: vs, ?_, ?_, ?_⟩
    · have : tmps.getD i undef = v := by simp [hv1]
      simp only [List.mapM_cons, Sem.run_bind, rv, Sem.run_pure, Result.andThen_ok, h1, this]
    · have := h2.len; simp at this ⊢; omega
    · intro k c x hc hx
      cases k with
      | zero => simp at hc hx; subst hc; subst hx; exact hv2
      | succ k => simp at hc hx; exact h2.rel k c x hc (by simpa using hx)
  | .cell i ty :: r, ys, h => by
    simp only [ares] at h
    split at h <;> try (cases h; done)
    rename_i p hp
    split at h <;> try (cases h; done)
    rename_i y ys' hy hys
    cases h
    obtain ⟨vs, h1, h2⟩ := ares_run hR hT r ys' hys
    obtain ⟨v, hv1, hv2⟩ := hT i p hp
    obtain ⟨u, hu, huv⟩ := aload_sound hR hy hv2
    have hptr : ∃ ad, v = .pointer (some ad) := by
      unfold aload at hy
      split at hy <;> try (cases hy; done)
      obtain ⟨cs, hcs, _⟩ := Option.bind_eq_some_iff.1 hy
      obtain ⟨b, o, _, rfl, _⟩ := acells_sound hR hcs hv2
      exact ⟨_, rfl⟩
    obtain ⟨ad, rfl⟩ := hptr
    have hl : (loadVar ty ad).run P w = .ok u w := by
      simp only [Instr.loadAt, Instr.sureAddr, Sem.run_bind, Sem.run_pure, Result.andThen_ok] at hu
      exact hu
    refine ⟨u :: vs, ?_, ?_, ?_⟩
    · have : tmps.getD i undef = .pointer (some ad) := by simp [hv1]
      have h3 : (rv tmps (.cell i ty)).run P w = .ok u w := by
        simp only [rv, Sem.run_bind, this, asAddr, Sem.run_pure, Result.andThen_ok, hl]
      simp only [List.mapM_cons, Sem.run_bind, h3, Sem.run_pure, Result.andThen_ok, h1]
    · have := h2.len; simp at this ⊢; omega
    · intro k c x hc hx
      cases k with
      | zero => simp at hc hx; subst hc; subst hx; exact huv
      | succ k => simp at hc hx; exact h2.rel k c x hc (by simpa using hx)

/-- **A function's contract, out of what its code comes to.** -/
theorem acalls_of_vc {f : FuncId} {fn : Func} {c : Code} {as : List AV} {R : AEnd → H → Prop} (cf : Cfg) (hm : P.follows .mixedOrders = true) (hf : P.funcs[f]? = some fn) (hb : fn.body = some c) (hname : (fn.name == "runtime.NumGoroutine") = false)
    (hok : okCode cf.pl c = true) (hn : as.length ≤ fn.ntmps) (h : vc P fn.ntmps cf c (bodyQ P fn.results.toList R) (targs 0 as) σ) : ACalls P f as σ R := by
  refine ⟨fun args w => ?_, fun vs w ha hR => ?_⟩
  · simp only [callFunc, Sem.run_bind]
    show Sem.run P (match P.funcs[f]? with | none => _ | some fn => _) w = _
    rw [hf]
    simp only [hname, hb]
    rfl
  · refine calls_of_wp hf hb ?_
    have hl := ha.len
    have hT : TR (targs 0 as) (vs ++ Array.replicate (fn.ntmps - vs.size) undef) w (dom σ) := by
      intro i x hx
      obtain ⟨_, h2⟩ := targs_get as 0 i x hx
      rw [Nat.sub_zero] at h2
      have hil : i < as.length := (List.getElem?_eq_some_iff.1 h2).1
      have hiv : i < vs.size := by omega
      exact ⟨vs[i], by rw [Array.getElem?_append_left hiv]; exact Array.getElem?_eq_getElem hiv, ha.rel i x _ h2 (Array.getElem?_eq_getElem hiv)⟩
    refine wp_mono (vc_sound hm c hok _ (targs 0 as) σ { tmps := vs ++ Array.replicate (fn.ntmps - vs.size) undef, defers := [] } w h hT hR rfl (by simp; omega)) fun e a' w' hq => ?_
    have fin : ∀ (Rr : T → H → Prop), (∀ t σ1, Rr t σ1 → ∃ ys, ares P t σ1 fn.results.toList = some ys ∧ ∃ σ' y, FrzH σ1 σ' ∧ Frz σ1 σ' (aret ys) y ∧ R (.ret y) σ') → Good fn.ntmps σ w Rr a' w' →
        a'.defers = [] ∧ ∃ v, (results fn a'.tmps).run P w' = .ok v w' ∧ ∃ ae σ', R ae σ' ∧ EndR w' (dom σ') ae (.returned v) ∧ HR σ' w' ∧ Le (dom σ) w w' ∧ DomOk w (dom σ) (dom σ') := by
      intro Rr hRr hg
      obtain ⟨h1, h2, t, σ1, h3, h4, h5, h6, h7⟩ := hg
      obtain ⟨ys, hys, σ', y, hfh, hfz, hr⟩ := hRr t σ1 h3
      obtain ⟨us, hus, har⟩ := ares_run h5 h4 _ _ hys
      refine ⟨h1, _, ?_, .ret y, σ', hr, hfz.sound h5 hfh.sub (aret_sound har), hfh.sound h5, h6, fun b hb hd => h7 b hb (hfh.sub b hd)⟩
      rw [results_rv]
      simp only [Sem.run_bind, Array.mapM_eq_mapM_toList, Sem.run_map, hus]
      rfl
    cases e <;> simp only [γ, bodyPost] at hq ⊢
    case normal => exact fin _ (fun t σ1 hh => hh) hq
    case ret => exact fin _ (fun t σ1 hh => hh) hq
    case panic ch =>
      obtain ⟨v, rfl, h1, h2, t, σ1, ⟨σ', hfh, hr⟩, h4, h5, h6, h7⟩ := hq
      exact ⟨h1, .pan v, σ', hr, rfl, hfh.sound h5, h6, fun b hb hd => h7 b hb (hfh.sub b hd)⟩
    case exit id => obtain ⟨_, _, t, σ1, h3, _⟩ := hq; exact h3.elim
end
end Go.Ag
