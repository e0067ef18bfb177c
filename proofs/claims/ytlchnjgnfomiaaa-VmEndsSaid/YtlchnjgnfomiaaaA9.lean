/- A part of the proof: A9. -/
import Derived.Test.YtlchnjgnfomiaaaA8
set_option linter.unusedSimpArgs false
set_option linter.unusedVariables false
namespace Go.Ag
open Go
section
variable {P : Program} {w : World} {σ : H} {t : T} {a : Act}

theorem tzero_run {ty : TypeId} {D : Nat → Prop} {cs : List AV} (h : tzero P ty = some cs) : ∃ z, (∀ w, (zeroValue ty).run P w = .ok z w) ∧ CR w D cs z.cells := by
  obtain ⟨z, _, _, _, h1, h2⟩ := tzero_sound (w := w) (D := D) h
  exact ⟨z, h1, h2⟩

def K' (K : AV → H → Prop) (σ : H) (a : Act) (_ : T) (w : World) (z : Operand) : Prop := ∃ y, K y σ ∧ VR w (dom σ) y (a.eval z)

set_option maxHeartbeats 1000000 in
theorem vcOp_sound {rob : Nat → Bool} {o : Oper} {K : AV → H → Prop} {Kp : Value → H → Prop} {Kc : Act → World → Prop} {Q : Exit → Act → World → Prop}
    (h : vcOp P rob o t σ K Kp) (hT : TR t a.tmps w (dom σ)) (hR : HR σ w) (hK : Cont σ w a o.dst K Kc) (hP : ContP σ w a Kp Q) : o.wp P a w Kc Q := by
  obtain ⟨dst, op, type, pos, after, guard⟩ := o
  have same : ∀ {y : AV} {u : Value}, K y σ → VR w (dom σ) y u → Kc (a.put dst u) w := fun h1 h2 => hK _ _ σ w h1 h2 hR (Le.refl _ _) (DomOk.refl _ _)
  cases op <;> simp only [vcOp] at h <;> try (exact h.elim)
  case move x =>
    obtain ⟨y, hy, _, hv⟩ := one_sound h hT
    exact wp_of_value (w' := w) rfl (same hy hv)
  case assign x =>
    obtain ⟨y, hy, _, hv⟩ := one_sound h hT
    exact wp_of_value (w' := w) rfl (same hy hv)
  case pick c x y =>
    obtain ⟨q, hq, _, hqv⟩ := one_sound h hT
    split at hq <;> try (exact hq.elim)
    rename_i q _
    have ec : a.eval c = .bool q := by generalize a.eval c = z at hqv; cases hqv; rfl
    have run : (execOp a.eval ({ dst := dst, op := .pick c x y, type := type, pos := pos, after := after, guard := guard } : Oper)).run P w = .ok (.value (if q then a.eval x else a.eval y)) w := by
      simp [execOp, ec, asBool]
    have hcong : ∀ {z : Operand}, oneO (aeval t z) (fun y => K y σ) → K' K σ a t w z := fun hz => by
      unfold oneO at hz
      split at hz
      · rename_i y hy; exact ⟨y, hz, aeval_sound hy hT⟩
      · exact hz.elim
    unfold pickK at hq
    split at hq
    · rename_i b1 b2 h1 h2
      have v1 := aeval_sound h1 hT
      have v2 := aeval_sound h2 hT
      have e1 : a.eval x = .bool b1 := by generalize a.eval x = z at v1; cases v1; rfl
      have e2 : a.eval y = .bool b2 := by generalize a.eval y = z at v2; cases v2; rfl
      refine wp_of_value run (same hq ?_)
      rw [e1, e2]
      cases q <;> exact .v _
    · obtain ⟨hq1, hq2⟩ := hq
      cases q with
      | true =>
        obtain ⟨z, hz, hv⟩ := hcong (hq1 rfl)
        exact wp_of_value run (same hz hv)
      | false =>
        obtain ⟨z, hz, hv⟩ := hcong (hq2 rfl)
        exact wp_of_value run (same hz hv)
  case load ty x =>
    obtain ⟨y, hy, _, hv⟩ := one_sound h hT
    split at hy <;> try (exact hy.elim)
    rename_i z hz
    obtain ⟨u, hu, huv⟩ := aload_sound hR hz hv
    exact wp_of_value (run_value hu) (same hy huv)
  case store ty x y =>
    obtain ⟨p, hp, _, hpv⟩ := one_sound h hT
    obtain ⟨z, hz, _, hzv⟩ := one_sound hp hT
    split at hz <;> try (exact hz.elim)
    rename_i n ag σ' ht hst
    obtain ⟨hl, hone, hk⟩ := hz
    obtain ⟨w', h1, h2, h3, h4⟩ := astore_sound hR ht hst hl (fun c hc => List.all_eq_true.1 hone c hc) hpv hzv
    exact wp_of_skip (w' := w') (by simp only [execOp, Sem.run_bind, h1, Result.andThen_ok]; rfl) (hK _ _ σ' w' hk (.v _) h2 h3 h4)
  case box ty x =>
    obtain ⟨y, hy, _, hv⟩ := one_sound h hT
    obtain ⟨hone, hy⟩ := hy
    have hone' : ∀ c ∈ y.cells, c.one = true := fun c hc => List.all_eq_true.1 hone c hc
    split at hy
    · obtain ⟨u, w', h1, h2, h3, h4⟩ := box_ro hR ty hone' hv
      exact wp_of_value (run_value h1) (hK _ _ σ w' hy h2 h3 h4 (DomOk.refl _ _))
    · obtain ⟨w', h1, h2, h3, h4, h5⟩ := box_own hR ty hone' hv
      exact wp_of_value (run_value h1) (hK _ _ _ w' (hy _ h2) (.v _) h3 h4 h5)
  case alloc ty =>
    split at h <;> try (exact h.elim)
    rename_i cs hz
    obtain ⟨z, hzr, hzc⟩ := tzero_run (w := w) (D := dom σ) hz
    have hrun : ∀ {u w'}, (Instr.box ty z).run P w = .ok u w' → (Instr.alloc ty true (.tuple #[])).run P w = .ok u w' := by
      intro u w' hb
      simp only [Instr.alloc, Sem.run_bind, hzr, Result.andThen_ok]
      exact hb
    have hcells : (AV.agg cs).cells = cs := rfl
    have hva : VR w (dom σ) (.agg cs) (.agg z.cells) := hzc.agg
    have hbox : ∀ w, (Instr.box ty z).run P w = (Instr.box ty (.agg z.cells)).run P w := by
      intro w; rfl
    split at h
    · obtain ⟨u, w', h1, h2, h3, h4⟩ := box_ro hR ty (y := .agg cs) hzc.one hva
      exact wp_of_value (run_value (hrun (by rw [hbox]; exact h1))) (hK _ _ σ w' h h2 h3 h4 (DomOk.refl _ _))
    · obtain ⟨w', h1, h2, h3, h4, h5⟩ := box_own hR ty (y := .agg cs) hzc.one hva
      exact wp_of_value (run_value (hrun (by rw [hbox]; exact h1))) (hK _ _ _ w' (h _ h2) (.v _) h3 h4 h5)
  case build ty parts =>
    split at h <;> try (exact h.elim)
    rename_i ps hps
    split at h <;> try (exact h.elim)
    rename_i y hy
    obtain ⟨u, hu, huv⟩ := abuild_sound (vs := parts.map fun (i, x) => (i, a.eval x)) hy (by
      have := aparts_sound (a := a) hT _ _ hps
      simpa using this)
    exact wp_of_value (run_value hu) (same h huv)
  case buildSlice ty len parts =>
    split at h <;> try (exact h.elim)
    rename_i q e by_ ps ht hb hps
    split at h <;> try (exact h.elim)
    rename_i z rows hz hrows
    obtain ⟨hzl, hlen, hbig, hlm', hk⟩ := h
    obtain ⟨e', i, hu, hi, rfl⟩ := tel_slice ht
    unfold tbytes at hb
    rw [hu] at hb
    simp only [hi, Option.map_some, Option.some.injEq, Prod.mk.injEq] at hb
    obtain ⟨rfl, _⟩ := hb
    obtain ⟨zv, hzr, hzc⟩ := tzero_run (w := w) (D := dom σ) hz
    obtain ⟨r1, r2, r3⟩ := alit_spec 0 ps rows hrows
    have hps' := aparts_sound (a := a) hT _ _ hps
    have hpl : ps.length = len := by rw [← hlen, r1]; simp
    have hzs : zv.cells.size = i.size := by rw [← hzc.len, hzl]
    obtain ⟨cur', f1, f2, f3, f4⟩ := fill_rows i.size ps _ 0 ((Array.range (len * i.size)).map ((if len * i.size = 0 then #[] else zv.cells)[· % (if len * i.size = 0 then #[] else zv.cells).size]!)) hps' r2 r3 (by simp [hpl])
    have hcs : cur'.size = len * i.size := by rw [f2]; simp
    have hrun : (Instr.buildSlice ty len (parts.map fun (i, x) => (i, a.eval x))).run P w = .ok (.slice (some ⟨w.heap.size, 0, none⟩) len len) (w.alloc (.cells cur' e')) := by
      have hbig' : ¬ (len * i.size > 2 ^ 24) := by omega
      have hfl : (parts.map fun (i, x) => (i, a.eval x)).toList = parts.toList.map fun x => (x.1, a.eval x.2) := by simp
      by_cases h0 : len * i.size = 0
      · simp only [h0, if_true] at f1
        simp only [Instr.buildSlice, Sem.run_bind, run_underlying hu, Result.andThen_ok, run_sizeOf hi, h0, if_true, Sem.run_pure, hfl]
        rw [if_neg (by omega)]
        simp only [Sem.run_bind, Sem.run_pure, Result.andThen_ok, f1]
        rfl
      · simp only [if_neg h0] at f1
        simp only [Instr.buildSlice, Sem.run_bind, run_underlying hu, Result.andThen_ok, run_sizeOf hi, if_neg hbig', if_neg h0, hzr, Sem.run_pure, hfl]
        simp only [Sem.run_bind, Sem.run_pure, Result.andThen_ok, f1]
        rfl
    have hle : Le (dom σ) w (w.alloc (.cells cur' e')) := Le.alloc _ _ _
    have hrow : ∀ (k : Nat) (r : List AV), rows[k]? = some r → ∃ p, ps[k]? = some p ∧ r = p.2.cells := by
      intro k r hk
      rw [r1, List.getElem?_map] at hk
      obtain ⟨p, hp, rfl⟩ := Option.map_eq_some_iff.1 hk
      exact ⟨p, hp, rfl⟩
    have hrel : ∀ (k : Nat) (r : List AV) (j : Nat) (c : AV) (x : Value), rows[k]? = some r → r[j]? = some c → cur'[k * i.size + j]? = some x → VR w (dom σ) c x := by
      intro k r j c x hk hj hx
      obtain ⟨p, hp, rfl⟩ := hrow k r hk
      exact f4 k p j c x hp hj (by rw [Nat.zero_add]; exact hx)
    have hr1 : ∀ (k : Nat) (r : List AV), rows[k]? = some r → r.length = i.size ∧ ∀ c ∈ r, c.one = true := by
      intro k r hk
      obtain ⟨p, hp, rfl⟩ := hrow k r hk
      exact r3 p (List.mem_of_getElem? hp)
    have hlm : len ≤ maxLen := by
      simp only [maxLen]; omega
    split at hk
    · refine wp_of_value (run_value hrun) (hK _ _ σ _ hk ?_ (hR.kept (Le.alloc _ _ _)) hle (DomOk.refl _ _))
      rw [← hlen]
      refine .ro rows _ _ i.size (fun k j => cur'.getD (k * i.size + j) undef) hr1 (fun hne => ⟨w.heap.size, 0, rfl, fun hd => Nat.lt_irrefl _ (hR.dom_lt hd), by show _ < (w.heap.push _).size; simp, fun k r j hk' hj => ?_⟩) (fun k r j c hk' hj => ?_) (by rw [hlen]; exact hlm) (Nat.le_refl _)
      · have hkl : k < rows.length := (List.getElem?_eq_some_iff.1 hk').1
        rw [(hr1 k r hk').1] at hj
        have : (k + 1) * i.size ≤ len * i.size := Nat.mul_le_mul_right _ (by omega)
        rw [Nat.add_mul, Nat.one_mul] at this
        have hlt : k * i.size + j < cur'.size := by omega
        rw [Nat.zero_add, cell_of_heap (heap_alloc _ _)]
        simp [hlt]
      · have hkl : k < rows.length := (List.getElem?_eq_some_iff.1 hk').1
        have hjl : j < i.size := by rw [← (hr1 k r hk').1]; exact (List.getElem?_eq_some_iff.1 hj).1
        have : (k + 1) * i.size ≤ len * i.size := Nat.mul_le_mul_right _ (by omega)
        rw [Nat.add_mul, Nat.one_mul] at this
        have hlt : k * i.size + j < cur'.size := by omega
        exact (hrel k r j c _ hk' hj (by simp [hlt])).mono hle (DomOk.refl _ _)
    · obtain ⟨g1, g2, g3⟩ := hR.alloc (o := .rows e' i.size rows) (cur := cur') (e := e') (.rows _ _ _ _ (by rw [hcs, hlen]; exact Nat.le_refl _) (by rw [hlen]; exact hlm) hr1 hrel)
      exact wp_of_value (run_value hrun) (hK _ _ _ _ (hk _ hR.fresh) (.sl _ len _ _ len cur' (heap_alloc _ _) hcs (Nat.le_refl _) hlm) g1 g2 g3)
  case nilCheck x =>
    obtain ⟨y, hy, _, hv⟩ := one_sound h hT
    have run : ∀ {u : Value}, a.eval x = u → (match u with | .pointer (some _) => True | .func (.func _) _ _ => True | .iface _ _ => True | _ => False) →
        (execOp a.eval ({ dst := dst, op := .nilCheck x, type := type, pos := pos, after := after, guard := guard } : Oper)).run P w = .ok (.value u) w := by
      intro u hu hm
      simp only [execOp, hu]
      split at hm <;> first | rfl | exact hm.elim
    generalize hu : a.eval x = u at hv
    split at hy <;> try (exact hy.elim)
    · cases hv; exact wp_of_value (run hu trivial) (same hy (.v _))
    · cases hv; exact wp_of_value (run hu trivial) (same hy (.v _))
    · cases hv; exact wp_of_value (run hu trivial) (same hy (.v _))
    · cases hv; exact wp_of_value (run hu trivial) (same hy (.at ..))
    · have hv' := hv
      cases hv'; exact wp_of_value (run hu trivial) (same hy hv)
  case binOp op ty x y _ =>
    obtain ⟨p, hp, _, hpv⟩ := one_sound h hT
    obtain ⟨z, hz, _, hzv⟩ := one_sound hp hT
    split at hz <;> try (exact hz.elim)
    rename_i c r hab
    obtain ⟨hc, hk⟩ := hz
    obtain ⟨u, hu, huv⟩ := abin_sound hab hc hpv hzv x y
    exact wp_of_value (run_value hu) (same hk huv)
  case unOp op ty x =>
    obtain ⟨p, hp, _, hpv⟩ := one_sound h hT
    split at hp <;> try (exact hp.elim)
    rename_i r hr
    obtain ⟨u, hu, huv⟩ := aun_sound hr hpv
    exact wp_of_value (run_value hu) (same hp huv)
  case convert src ty x =>
    obtain ⟨p, hp, _, hpv⟩ := one_sound h hT
    split at hp <;> try (exact hp.elim)
    rename_i r hr
    obtain ⟨u, hu, huv⟩ := aconv_sound hp.1 hr hpv
    exact wp_of_value (run_value hu) (same hp.2 huv)
  case makeInterface ty x =>
    obtain ⟨p, hp, _, hpv⟩ := one_sound h hT
    split at hp <;> try (exact hp.elim)
    rename_i v d hv hu
    have ev := toV_sound hv hpv
    refine wp_of_value (u := .iface ty v) (w' := w) (run_value ?_) ?_
    · simp only [Instr.makeInterface, Sem.run_bind, run_underlying hu, Result.andThen_ok, ev]
      cases d <;> first | rfl | exact hp.elim
    · refine same (y := .v (.iface ty v)) ?_ (.v _)
      cases d <;> first | exact hp | exact hp.elim
  case makeFunc fn first captured =>
    split at h <;> try (exact h.elim)
    rename_i fs cs hfs hcs
    split at h <;> try (exact h.elim)
    rename_i f c hf hc
    have h1 := toV_list _ _ _ (aargs_sound (a := a) hT _ _ hfs) hf
    have h2 := toV_list _ _ _ (aargs_sound (a := a) hT _ _ hcs) hc
    refine wp_of_value (u := .func fn f.toArray c.toArray) (w' := w) (run_value ?_) (same h (.v _))
    have e1 : first.map a.eval = f.toArray := by rw [← h1, ← Array.toList_map]
    have e2 : captured.map a.eval = c.toArray := by rw [← h2, ← Array.toList_map]
    simp only [Instr.makeFunc, e1, e2]
    rfl
  case makeSlice ty l c =>
    obtain ⟨p, hp, _, hpv⟩ := one_sound h hT
    obtain ⟨z, hz, _, hzv⟩ := one_sound hp hT
    split at hz <;> try (exact hz.elim)
    rename_i k1 n k2 m _ _
    obtain ⟨y, u, σ', w', g1, g2, g3, g4, g5, g6⟩ := AMake_sound (k1 := k1) (k2 := k2) hR hz
    have e1 : a.eval l = .int k1 n := by generalize a.eval l = z at hpv; cases hpv; rfl
    have e2 : a.eval c = .int k2 m := by generalize a.eval c = z at hzv; cases hzv; rfl
    exact wp_of_value (run_value (by rw [e1, e2]; exact g2)) (hK _ _ _ _ g1 g3 g4 g5 g6)
  case fieldAddr s x f =>
    obtain ⟨p, hp, _, hpv⟩ := one_sound h hT
    split at hp <;> try (exact hp.elim)
    rename_i n hn
    split at hp <;> try (exact hp.elim)
    rename_i z hz
    obtain ⟨u, hu, huv⟩ := afield_sound hn hz hpv
    exact wp_of_value (run_value hu) (same hp huv)
  case field ty x f =>
    obtain ⟨p, hp, _, hpv⟩ := one_sound h hT
    split at hp <;> try (exact hp.elim)
    rename_i z hz
    obtain ⟨u, hu, huv⟩ := afield_val_sound hz hpv
    exact wp_of_value (run_value hu) (same hp huv)
  case indexAddr ty x i =>
    obtain ⟨p, hp, _, hpv⟩ := one_sound h hT
    obtain ⟨z, hz, _, hzv⟩ := one_sound hp hT
    split at hz <;> try (exact hz.elim)
    rename_i kd n _
    obtain ⟨h0, hz⟩ := hz
    have e1 : a.eval i = .int kd n := by generalize a.eval i = z at hzv; cases hzv; rfl
    obtain ⟨n, rfl⟩ := Int.eq_ofNat_of_zero_le h0
    rw [Int.toNat_natCast] at hz
    obtain ⟨y, u, g1, g2, g3⟩ := aindex_sound (kd := kd) hz hpv
    exact wp_of_value (run_value (by rw [e1]; exact g3)) (same g1 g2)
  case index ty x i =>
    obtain ⟨p, hp, _, hpv⟩ := one_sound h hT
    obtain ⟨z, hz, _, hzv⟩ := one_sound hp hT
    split at hz <;> try (exact hz.elim)
    rename_i c r hab
    obtain ⟨hc, hk⟩ := hz
    obtain ⟨u, hu, huv⟩ := aidx_sound hab hc hpv hzv
    exact wp_of_value (run_value hu) (same hk huv)
  case extract x i =>
    obtain ⟨p, hp, _, hpv⟩ := one_sound h hT
    split at hp <;> try (exact hp.elim)
    rename_i vs _
    split at hp <;> try (exact hp.elim)
    rename_i z hz
    generalize hu : a.eval x = u at hpv
    cases hpv with
    | tup _ us hl hv =>
    have hlt : i < us.size := by rw [← hl]; exact (List.getElem?_eq_some_iff.1 hz).1
    have hui : us[i]? = some us[i] := Array.getElem?_eq_getElem hlt
    exact wp_of_value (run_value (w' := w) (by simp only [hu, Instr.extract, hui]; rfl)) (same hp (hv _ _ _ hz hui))
  case panic x =>
    obtain ⟨p, hp, _, hpv⟩ := one_sound h hT
    split at hp <;> try (exact hp.elim)
    rename_i ty v _
    have e1 : a.eval x = .iface ty v := by generalize a.eval x = z at hpv; cases hpv; rfl
    unfold Oper.wp
    have : (execOp a.eval ({ dst := dst, op := .panic x, type := type, pos := pos, after := after, guard := guard } : Oper)).run P w = .halt (.panic (.iface ty v)) w := by
      simp only [execOp, e1, Instr.panic]; rfl
    rw [this]
    exact hP _ σ w hp hR (Le.refl _ _) (DomOk.refl _ _)
  case slice ty x lo hi mx =>
    cases mx with
    | some mx => simp only [vcOp] at h
    | none =>
    simp only [vcOp] at h
    obtain ⟨y, hy, _, hv⟩ := one_sound h hT
    have ev : ∀ {z : Operand} {k : IntKind} {n : Int}, aeval t z = some (.v (.int k n)) → a.eval z = .int k n := by
      intro z k n hz
      have := aeval_sound (a := a) hz hT
      generalize a.eval z = q at this; cases this; rfl
    have mine : ∀ {u : Value}, (Instr.sliceAt ty (a.eval x) (lo.map a.eval) (hi.map a.eval) none).run P w = .ok u w →
        (execOp a.eval ({ dst := dst, op := .slice ty x lo hi none, type := type, pos := pos, after := after, guard := guard } : Oper)).run P w = .ok (.value u) w := fun hr => run_value hr
    generalize hlo : lo.map (aeval t) = qlo at hy
    generalize hhi : hi.map (aeval t) = qhi at hy
    generalize hud : P.underlying ty = d at hy
    have lonone : lo.map (aeval t) = none → lo = none := fun h => Option.map_eq_none_iff.1 h
    have hinone : hi.map (aeval t) = none → hi = none := fun h => Option.map_eq_none_iff.1 h
    have losome : ∀ {k n}, lo.map (aeval t) = some (some (.v (.int k n))) → ∃ l, lo = some l ∧ a.eval l = .int k n := fun h => by
      cases lo with
      | none => simp at h
      | some l => simp at h; exact ⟨l, rfl, ev h⟩
    have hisome : ∀ {k n}, hi.map (aeval t) = some (some (.v (.int k n))) → ∃ l, hi = some l ∧ a.eval l = .int k n := fun h => by
      cases hi with
      | none => simp at h
      | some l => simp at h; exact ⟨l, rfl, ev h⟩
    have strs : ∀ {s : ByteArray}, VR w (dom σ) (.v (.string s)) (a.eval x) → P.underlying ty = some .string → ∀ (l h' : Nat), (Instr.sliceBounds false s.size s.size (lo.map a.eval) (hi.map a.eval) none).run P w = .ok (l, h', s.size) w →
        (Instr.sliceAt ty (a.eval x) (lo.map a.eval) (hi.map a.eval) none).run P w = .ok (.string (s.extract l h')) w := by
      intro s hv hu l h' hb
      have es : a.eval x = .string s := by generalize a.eval x = z at hv; cases hv; rfl
      simp [Instr.sliceAt, run_underlying hu, Instr.slice, es, hb]
    have bnd : ∀ (k : IntKind) (n : Int) (m : Nat) c, 0 ≤ n → n ≤ m → (Instr.sliceBound (.int k n) m c).run P w = .ok n.toNat w := by
      intro k n m c h0 hm; simp only [Instr.sliceBound, asIntOf, Sem.run_bind, Sem.run_pure, Result.andThen_ok]; rw [if_pos ⟨h0, hm⟩]; rfl
    unfold vcSlice at hy
    split at hy <;> try (exact hy.elim)
    · obtain ⟨h0, hn, hk⟩ := hy
      obtain rfl := lonone hlo
      obtain ⟨l, rfl, e2⟩ := hisome hhi
      exact wp_of_value (mine (strs hv hud 0 _ (by simp [Instr.sliceBounds, e2, bnd _ _ _ _ h0 hn]))) (same hk (.v _))
    · obtain ⟨h0, hn, hk⟩ := hy
      obtain rfl := hinone hhi
      obtain ⟨l, rfl, e1⟩ := losome hlo
      exact wp_of_value (mine (strs hv hud _ _ (by simp [Instr.sliceBounds, e1, bnd _ _ _ _ h0 hn]))) (same hk (.v _))
    · rename_i s k1 l k2 h' _
      obtain ⟨h0, hnm, hn, hk⟩ := hy
      obtain ⟨l1, rfl, e1⟩ := losome hlo
      obtain ⟨l2, rfl, e2⟩ := hisome hhi
      have b1 := fun c => bnd k1 l h'.toNat c h0 (by omega)
      have b2 := fun c => bnd k2 h' s.size c (by omega) hn
      exact wp_of_value (mine (strs hv hud _ _ (by simp [Instr.sliceBounds, e1, e2, b1, b2]))) (same hk (.v _))
    · obtain ⟨h0, hk⟩ := hy
      obtain rfl := lonone hlo
      obtain ⟨l, rfl, e2⟩ := hisome hhi
      obtain ⟨n, hn⟩ := Int.eq_ofNat_of_zero_le h0
      rw [hn, Int.toNat_natCast] at hk
      obtain ⟨z, u, g1, g2, g3⟩ := ASlice_sound hk hv none (some (a.eval l)) (.inl ⟨rfl, rfl⟩) (.inr ⟨_, by rw [e2, hn]⟩)
      exact wp_of_value (mine g3) (same g1 g2)
    · split at hy <;> try (exact hy.elim)
      rename_i m hm
      obtain ⟨h0, hm0, hk⟩ := hy
      obtain rfl := hinone hhi
      obtain ⟨l, rfl, e1⟩ := losome hlo
      obtain ⟨n, hn⟩ := Int.eq_ofNat_of_zero_le h0
      obtain ⟨m, rfl⟩ := Int.eq_ofNat_of_zero_le hm0
      rw [hn, Int.toNat_natCast, Int.toNat_natCast] at hk
      obtain ⟨z, u, g1, g2, g3⟩ := ASlice_sound hk hv (some (a.eval l)) none (.inr ⟨_, by rw [e1, hn]⟩) (.inl ⟨rfl, hm⟩)
      exact wp_of_value (mine g3) (same g1 g2)
    · obtain ⟨h0, hm0, hk⟩ := hy
      obtain ⟨l1, rfl, e1⟩ := losome hlo
      obtain ⟨l2, rfl, e2⟩ := hisome hhi
      obtain ⟨n, hn⟩ := Int.eq_ofNat_of_zero_le h0
      obtain ⟨m, hm⟩ := Int.eq_ofNat_of_zero_le hm0
      rw [hn, hm, Int.toNat_natCast, Int.toNat_natCast] at hk
      obtain ⟨z, u, g1, g2, g3⟩ := ASlice_sound hk hv (some (a.eval l1)) (some (a.eval l2)) (.inr ⟨_, by rw [e1, hn]⟩) (.inr ⟨_, by rw [e2, hm]⟩)
      exact wp_of_value (mine g3) (same g1 g2)
  case call c => exact call_sound h hT hR hK hP
end
end Go.Ag
