/- A part of the proof: A8. -/
import Derived.Test.YtlchnjgnfomiaaaA7
import Derived.Test.YtlchnjgnfomiaaaA7b
set_option linter.unusedSimpArgs false
set_option linter.unusedVariables false
namespace Go.Ag
open Go
section
variable {P : Program} {w : World} {σ : H} {t : T} {a : Act}

theorem one_sound {x : Operand} {K : AV → Prop} {D : Nat → Prop} (h : one t x K) (hT : TR t a.tmps w D) : ∃ y, K y ∧ aeval t x = some y ∧ VR w D y (a.eval x) := by
  unfold one at h
  split at h
  · rename_i y hy; exact ⟨y, h, hy, aeval_sound hy hT⟩
  · exact h.elim

theorem aargs_sound {D : Nat → Prop} (hT : TR t a.tmps w D) : ∀ (xs : List Operand) (ys : List AV), aargs t xs = some ys → AR w D ys (xs.map a.eval).toArray
  | [], ys, h => by simp only [aargs, Option.some.injEq] at h; subst h; exact ⟨rfl, by simp⟩
  | x :: r, ys, h => by
    simp only [aargs] at h
    split at h <;> try (cases h; done)
    rename_i y ys' hy hys
    cases h
    have ih := aargs_sound hT r ys' hys
    refine ⟨by have := ih.len; simpa using this, fun i c v hc hv => ?_⟩
    cases i with
    | zero => simp at hc hv; subst hc; subst hv; exact aeval_sound hy hT
    | succ i => simp at hc hv; exact ih.rel i c v hc (by simpa using hv)

theorem aparts_sound {D : Nat → Prop} (hT : TR t a.tmps w D) : ∀ (xs : List (Nat × Operand)) (ys : List (Nat × AV)), aparts t xs = some ys → PR w D ys (xs.map fun x => (x.1, a.eval x.2))
  | [], ys, h => by simp only [aparts, Option.some.injEq] at h; subst h; exact ⟨rfl, by simp⟩
  | (k, x) :: r, ys, h => by
    simp only [aparts] at h
    split at h <;> try (cases h; done)
    rename_i y ys' hy hys
    cases h
    have ih := aparts_sound hT r ys' hys
    refine ⟨by have := ih.1; simpa using this, fun i c v hc hv => ?_⟩
    cases i with
    | zero => simp at hc hv; subst hc; subst hv; exact ⟨rfl, aeval_sound hy hT⟩
    | succ i => simp at hc hv; exact ih.2 i c v hc (by simpa using hv)

theorem toV_list {D : Nat → Prop} : ∀ (ys : List AV) (us : List Value) (vs : Array Value), AR w D ys vs → ys.mapM toV = some us → vs = us.toArray := by
  intro ys
  have key : ∀ (ys : List AV) (us vs : List Value), ys.length = vs.length → (∀ (i : Nat) (c : AV) (x : Value), ys[i]? = some c → vs[i]? = some x → VR w D c x) → ys.mapM toV = some us → vs = us := by
    intro ys
    induction ys with
    | nil => intro us vs hl _ h; simp at h; subst h; simpa using hl.symm
    | cons y ys ih =>
      intro us vs hl hv h
      cases vs with
      | nil => simp at hl
      | cons v vs =>
        simp only [List.mapM_cons, Option.bind_eq_bind, Option.pure_def] at h
        obtain ⟨x, hx, h⟩ := Option.bind_eq_some_iff.1 h
        obtain ⟨l', hl', h⟩ := Option.bind_eq_some_iff.1 h
        cases h
        rw [ih l' vs (by simpa using hl) (fun i a b ha hb => hv (i + 1) a b (by simpa using ha) (by simpa using hb)) hl', toV_sound hx (hv 0 y v rfl rfl)]
  intro us vs h hm
  have := key ys us vs.toList (by simpa using h.len) (fun i c x hc hx => h.rel i c x hc (by simpa using hx)) hm
  rw [← this]

theorem len_two {α : Type} {l : List α} (h : l.length = 2) : ∃ a b, l = [a, b] := by
  match l, h with
  | [a, b], _ => exact ⟨a, b, rfl⟩

/-- What comes behind an operation. -/
def Cont (σ : H) (w : World) (a : Act) (dst : Option Tmp) (K : AV → H → Prop) (Kc : Act → World → Prop) : Prop :=
  ∀ y u σ' w', K y σ' → VR w' (dom σ') y u → HR σ' w' → Le (dom σ) w w' → DomOk w (dom σ) (dom σ') → Kc (a.put dst u) w'
def ContP (σ : H) (w : World) (a : Act) (Kp : Value → H → Prop) (Q : Exit → Act → World → Prop) : Prop :=
  ∀ v σ' w', Kp v σ' → HR σ' w' → Le (dom σ) w w' → DomOk w (dom σ) (dom σ') → Q (.panic [{ v := v, recovered := false }]) a w'

theorem wp_of_value {o : Oper} {u : Value} {w' : World} {Kc : Act → World → Prop} {Q : Exit → Act → World → Prop} (h : (execOp a.eval o).run P w = .ok (.value u) w') (hk : Kc (a.put o.dst u) w') : o.wp P a w Kc Q := by
  unfold Oper.wp; rw [h]; exact hk
theorem wp_of_skip {o : Oper} {w' : World} {Kc : Act → World → Prop} {Q : Exit → Act → World → Prop} (h : (execOp a.eval o).run P w = .ok .skip w') (hk : Kc (a.put o.dst undef) w') : o.wp P a w Kc Q := by
  unfold Oper.wp; rw [h]; exact hk

theorem run_value {s : Sem Value} {u : Value} {w' : World} (h : s.run P w = .ok u w') : (do pure (Next.value (← s)) : Sem Next).run P w = .ok (.value u) w' := by
  simp only [Sem.run_bind, h, Result.andThen_ok]; rfl

theorem call_sound {c : Call} {ty : TypeId} {dst : Option Tmp} {pos : String} {after : Array Edge} {guard : Option (Nat × Bool)} {K : AV → H → Prop} {Kp : Value → H → Prop} {Kc : Act → World → Prop} {Q : Exit → Act → World → Prop}
    (h : vcCall P c t σ K Kp) (hT : TR t a.tmps w (dom σ)) (hR : HR σ w) (hK : Cont σ w a dst K Kc) (hP : ContP σ w a Kp Q) :
    ({ dst := dst, op := .call c, type := ty, pos := pos, after := after, guard := guard } : Oper).wp P a w Kc Q := by
  unfold vcCall at h
  split at h
  · exact h.elim
  rename_i as has
  have hA := aargs_sound hT _ _ has
  have enter : ∀ (f : FuncId) (xs : List AV) (vs : Array Value), ACalls P f xs σ (endK K Kp) → AR w (dom σ) xs vs →
      (do let d ← resolve a.eval c ty; invoke d.target d.args : Sem Next).run P w = (callFunc f vs).run P w →
      ({ dst := dst, op := .call c, type := ty, pos := pos, after := after, guard := guard } : Oper).wp P a w Kc Q := by
    intro f xs vs hc har hrun
    unfold Oper.wp
    have : (execOp a.eval ({ dst := dst, op := .call c, type := ty, pos := pos, after := after, guard := guard } : Oper)).run P w = .ok (.enter f vs) w := by
      rw [← hc.1 vs w, ← hrun]; rfl
    rw [this]
    refine (hc.2 vs w har hR).mono fun e w' ⟨ae, σ', h1, h2, h3, h4, h5⟩ => ?_
    cases e with
    | returned v =>
      cases ae with
      | ret y => exact hK y v σ' w' h1 h2 h3 h4 h5
      | pan v' => exact h2.elim
    | panicked ch =>
      cases ae with
      | ret y => exact h2.elim
      | pan v' => obtain rfl : ch = _ := h2; exact hP v' σ' w' h1 h3 h4 h5
    | outgrown => cases ae <;> exact h2.elim
  obtain ⟨callee, args, tys⟩ := c
  cases callee with
  | builtin b =>
    dsimp only at h has hA
    unfold vcBuiltin at h
    have hargs : args.map a.eval = (args.toList.map a.eval).toArray := by rw [← Array.toList_map]
    split at h <;> try (exact h.elim)
    · rename_i _ ty' y htys
      split at h <;> try (exact h.elim)
      rename_i n hn
      obtain ⟨x, hx⟩ : ∃ x, args.toList = [x] := by
        have := hA.len; simp at this
        exact List.length_eq_one_iff.1 (by simpa using this.symm)
      have hax : VR w (dom σ) y (a.eval x) := hA.rel 0 y _ rfl (by rw [hx]; rfl)
      refine wp_of_value (u := .int .i64 n) (w' := w) ?_ (hK _ _ σ w h (.v _) hR (Le.refl _ _) (DomOk.refl _ _))
      have htys' : tys = #[ty'] := by rw [← Array.toArray_toList (xs := tys), htys]
      have hargs' : args.map a.eval = #[a.eval x] := by rw [hargs, hx]; rfl
      have hlen : (Builtin.len_ #[ty'] ty #[a.eval x]).run P w = .ok (.int .i64 n) w := by
        unfold lenOf at hn
        split at hn <;> try (cases hn; done)
        · rename_i hu
          split at hn <;> try (cases hn; done)
          rename_i s
          cases hn
          generalize a.eval x = z at hax
          cases hax
          simp [Builtin.len_, run_underlying hu, goInt]
        · rename_i e hu
          split at hn <;> try (cases hn; done)
          rename_i hns
          refine alen_sound (.inr ⟨e, hu⟩) hn hax ⟨fun h => (by rw [hu] at h; cases h), fun ⟨s, hs⟩ => ?_⟩ ty
          rw [hs] at hax
          cases hax
          exact absurd rfl (hns s)
        · rename_i m e hu
          cases hn
          simp [Builtin.len_, run_underlying hu, goInt]
      simp only [execOp, resolve, Sem.run_bind, Sem.run_pure, Result.andThen_ok, invoke, builtin, htys', hargs', hlen]
    · rename_i _ ty1 ty2 x y htys
      obtain ⟨rfl, σ0, xs, rs, h⟩ := h
      split at h <;> try (exact h.elim)
      rename_i q e by_ ht hb
      split at h <;> try (exact h.elim)
      rename_i z hz
      obtain ⟨hzl, hpos, hos, hrs, hrow, hm, hby, hK'⟩ := h
      obtain ⟨x1, x2, hx⟩ : ∃ x1 x2, args.toList = [x1, x2] := by
        have := hA.len; simp at this
        exact len_two (by simpa using this.symm)
      have hax : VR w (dom σ) x (a.eval x1) := hA.rel 0 x _ rfl (by rw [hx]; rfl)
      have hay : VR w (dom σ) y (a.eval x2) := hA.rel 1 y _ rfl (by rw [hx]; rfl)
      obtain ⟨e', i, hu, hi, rfl⟩ := tel_slice ht
      unfold tbytes at hb
      rw [hu] at hb
      simp only [hi, Option.map_some, Option.some.injEq, Prod.mk.injEq] at hb
      obtain ⟨rfl, rfl⟩ := hb
      obtain ⟨zv, i', hi', hzv, _, hzc⟩ := tzero_sound (w := w) (D := dom σ) hz
      rw [hi] at hi'
      cases hi'
      obtain ⟨y', u', σ', w', g1, g2, g3, g4, g5, g6⟩ := run_append hR hu hi hzv (by rw [← hzc.len, hzl]) hpos hos hax hay hrs hrow (by simp only [maxLen]; omega) hby ty
      have hkk : Kc (a.put dst u') w' := by
        rcases hK' with hK' | hK'
        · exact hK y' u' σ' w' (hK' _ _ g1) g3 g4 g5 g6
        · obtain ⟨f1, f2⟩ := g1.frz
          exact hK _ u' σ0 w' hK' (f2.sound g4 f1.sub g3) (f1.sound g4) g5 (fun b hb hd => g6 b hb (f1.sub b hd))
      refine wp_of_value ?_ hkk
      have htys' : tys = #[ty1, ty1] := by rw [← Array.toArray_toList (xs := tys), htys]
      have hargs' : args.map a.eval = #[a.eval x1, a.eval x2] := by rw [hargs, hx]; rfl
      simp only [execOp, resolve, Sem.run_bind, Sem.run_pure, Result.andThen_ok, invoke, builtin, htys', hargs', g2]
    all_goals
      rename_i _ k m k' m'
      obtain ⟨x1, x2, hx⟩ : ∃ x1 x2, args.toList = [x1, x2] := by
        have := hA.len; simp at this
        exact len_two (by simpa using this.symm)
      have hax : VR w (dom σ) (.v (.int k m)) (a.eval x1) := hA.rel 0 _ _ rfl (by rw [hx]; rfl)
      have hay : VR w (dom σ) (.v (.int k' m')) (a.eval x2) := hA.rel 1 _ _ rfl (by rw [hx]; rfl)
      have e1 : a.eval x1 = .int k m := by generalize a.eval x1 = z at hax; cases hax; rfl
      have e2 : a.eval x2 = .int k' m' := by generalize a.eval x2 = z at hay; cases hay; rfl
      refine wp_of_value (w' := w) ?_ (hK _ _ σ w h (.v _) hR (Le.refl _ _) (DomOk.refl _ _))
      have hargs' : args.map a.eval = #[.int k m, .int k' m'] := by rw [hargs, hx, ← e1, ← e2]; rfl
      simp [execOp, resolve, invoke, builtin, hargs', Builtin.min_, Builtin.max_, Builtin.min2, Builtin.max2]
  | value f =>
    dsimp only at h has hA
    obtain ⟨g, hg, _, hgv⟩ := one_sound h hT
    split at hg <;> try (exact hg.elim)
    rename_i n first captured _
    have ef : a.eval f = .func (.func n) first captured := by generalize a.eval f = z at hgv; cases hgv; rfl
    refine enter n _ (first ++ args.map a.eval ++ captured) hg ?_ ?_
    · refine ⟨by have := hA.len; simp at this ⊢; omega, fun i c x hc hx => ?_⟩
      have hl := hA.len
      simp only [List.size_toArray, List.length_map] at hl
      have hc' : ((first.toList.map AV.v ++ as ++ captured.toList.map AV.v))[i]? = some c := hc
      have hx' : (first.toList ++ (args.toList.map a.eval) ++ captured.toList)[i]? = some x := by
        rw [← Array.getElem?_toList] at hx; simpa using hx
      rw [List.getElem?_append] at hc' hx'
      simp only [List.length_append, List.length_map] at hc' hx'
      rw [← hl] at hx'
      split at hc'
      · rename_i h1
        rw [if_pos h1] at hx'
        rw [List.getElem?_append] at hc' hx'
        simp only [List.length_map] at hc'
        split at hc'
        · rename_i h2
          rw [if_pos h2] at hx'
          simp only [List.getElem?_map, hx', Option.map_some, Option.some.injEq] at hc'
          subst hc'; exact .v _
        · rename_i h2
          rw [if_neg h2] at hx'
          exact hA.rel _ _ _ hc' (by simpa using hx')
      · rename_i h1
        rw [if_neg h1] at hx'
        simp only [List.getElem?_map, hx', Option.map_some, Option.some.injEq] at hc'
        subst hc'; exact .v _
    · simp only [resolve, ef, Deferred.ofValue, Sem.run_bind, Sem.run_pure, Result.andThen_ok, invoke]
  | invoke r name =>
    dsimp only at h has hA
    obtain ⟨g, hg, _, hgv⟩ := one_sound h hT
    split at hg <;> try (exact hg.elim)
    rename_i ty' x _
    have ef : a.eval r = .iface ty' x := by generalize a.eval r = z at hgv; cases hgv; rfl
    obtain ⟨f, x', hmeth, hcall⟩ := hg
    refine enter f _ (#[x'] ++ args.map a.eval) hcall ?_ ?_
    · refine ⟨by have := hA.len; simp at this ⊢; omega, fun i c v hc hv => ?_⟩
      cases i with
      | zero =>
        rw [← Array.getElem?_toList] at hv
        simp at hc hv; subst hc; subst hv; exact .v _
      | succ i =>
        simp at hc
        refine hA.rel i c v hc ?_
        rw [← Array.getElem?_toList] at hv ⊢
        simpa using hv
    · have e0 : (#[Value.iface ty' x] ++ args.map a.eval)[0]? = some (.iface ty' x) := by rw [← Array.getElem?_toList]; simp
      have e1 : (args.map a.eval).extract 0 args.size = args.map a.eval := by
        have := Array.extract_size (xs := args.map a.eval); simp
      simp [resolve, ef, invoke, callMethod, hmeth, e0, e1]

theorem alit_spec {q : Nat} : ∀ (k : Nat) (ps : List (Nat × AV)) (rows : List (List AV)), alit q k ps = some rows →
    rows = ps.map (fun p => p.2.cells) ∧ (∀ (i : Nat) (p : Nat × AV), ps[i]? = some p → p.1 = k + i) ∧ (∀ p ∈ ps, p.2.cells.length = q ∧ ∀ c ∈ p.2.cells, c.one = true)
  | k, [], rows, h => by simp only [alit, Option.some.injEq] at h; subst h; simp
  | k, (i, y) :: r, rows, h => by
    simp only [alit] at h
    split at h <;> try (cases h; done)
    rename_i hc
    obtain ⟨rfl, hl, hall⟩ := hc
    obtain ⟨rest, hr, rfl⟩ := Option.map_eq_some_iff.1 h
    obtain ⟨h1, h2, h3⟩ := alit_spec (i + 1) r rest hr
    refine ⟨by rw [h1]; rfl, fun j p hj => ?_, fun p hp => ?_⟩
    · cases j with
      | zero => simp at hj; subst hj; simp
      | succ j => simp at hj; rw [h2 j p hj]; omega
    · rcases List.mem_cons.1 hp with rfl | hp
      · exact ⟨hl, fun c hc => List.all_eq_true.1 hall c hc⟩
      · exact h3 p hp

/-- Filling a row part by part, from the front. -/
theorem fill_rows {D : Nat → Prop} (q : Nat) : ∀ (ps : List (Nat × AV)) (vs : List (Nat × Value)) (k : Nat) (cur : Array Value), PR w D ps vs → (∀ (i : Nat) (p : Nat × AV), ps[i]? = some p → p.1 = k + i) →
    (∀ p ∈ ps, p.2.cells.length = q ∧ ∀ c ∈ p.2.cells, c.one = true) → (k + ps.length) * q ≤ cur.size →
    ∃ cur', Instr.fill (fun i => some (i * q, q)) cur vs = some cur' ∧ cur'.size = cur.size ∧ (∀ j, j < k * q → cur'[j]? = cur[j]?) ∧
      ∀ (i : Nat) (p : Nat × AV) (j : Nat) (c : AV) (x : Value), ps[i]? = some p → p.2.cells[j]? = some c → cur'[(k + i) * q + j]? = some x → VR w D c x
  | [], vs, k, cur, hp, _, _, _ => by
    have : vs = [] := by have := hp.1; simpa using this.symm
    subst this
    exact ⟨cur, rfl, rfl, fun _ _ => rfl, by simp⟩
  | (i0, y) :: ps, vs, k, cur, hp, hk, h1, hs => by
    cases vs with
    | nil => have := hp.1; simp at this
    | cons v vs =>
      obtain ⟨k0, u⟩ := v
      obtain ⟨⟨hik, hyu⟩, hp'⟩ := hp.cons
      simp only at hik hyu
      subst hik
      have hi0 : i0 = k := hk 0 _ rfl
      subst hi0
      obtain ⟨hyl, hyo⟩ := h1 _ List.mem_cons_self
      simp only at hyl hyo
      obtain ⟨hl, hv⟩ := hyu.cells hyo
      simp only [List.length_cons] at hs
      have hs' : (i0 + 1 + ps.length) * q ≤ cur.size := by rw [show i0 + 1 + ps.length = i0 + (ps.length + 1) by omega]; exact hs
      have hk1 : (i0 + 1) * q ≤ cur.size := Nat.le_trans (Nat.mul_le_mul_right _ (by omega)) hs'
      have hk2 : (i0 + 1) * q = i0 * q + q := by rw [Nat.add_mul, Nat.one_mul]
      have hfold : u.cells.zipIdx.foldl (fun cs (x : Value × Nat) => cs.setIfInBounds (i0 * q + x.2) x.1) cur = (u.cells.toList.zipIdx 0).foldl (fun cs (x : Value × Nat) => cs.setIfInBounds (i0 * q + x.2) x.1) cur := by
        rw [← Array.foldl_toList, Array.toList_zipIdx]
      have hul : u.cells.toList.length = q := by simp; omega
      have hget := foldl_set_get u.cells.toList 0 (i0 * q) cur (by rw [hul]; omega)
      rw [← hfold] at hget
      simp only [Nat.add_zero, hul] at hget
      have hsz : (u.cells.zipIdx.foldl (fun cs (x : Value × Nat) => cs.setIfInBounds (i0 * q + x.2) x.1) cur).size = cur.size := by rw [hfold, foldl_set_size]
      obtain ⟨cur', f1, f2, f3, f4⟩ := fill_rows q ps vs (i0 + 1) _ hp' (fun i p hi => by have := hk (i + 1) p (by simpa using hi); omega) (fun p hp'' => h1 p (List.mem_cons_of_mem _ hp'')) (by rw [hsz]; exact hs')
      refine ⟨cur', ?_, f2.trans hsz, fun j hj => ?_, fun i p j c x hi hj hx => ?_⟩
      · simp only [Instr.fill]
        rw [if_neg (by simp only [Bool.or_eq_true, decide_eq_true_eq]; omega)]
        exact f1
      · rw [f3 j (by omega), hget, if_neg (by omega)]
      · cases i with
        | zero =>
          simp at hi
          subst hi
          simp only at hj
          have hjl : j < q := by rw [← hyl]; exact (List.getElem?_eq_some_iff.1 hj).1
          rw [Nat.add_zero, f3 _ (by omega), hget, if_pos (by omega), show i0 * q + j - i0 * q = j by omega] at hx
          exact hv j c x hj (by simpa using hx)
        | succ i =>
          simp at hi
          exact f4 i p j c x hi hj (by rw [show i0 + 1 + i = i0 + (i + 1) by omega]; exact hx)
end
end Go.Ag
