/- A part of the proof: A17. -/
import Derived.Test.YtlchnjgnfomiaaaA16
set_option linter.unusedSimpArgs false
set_option linter.unusedVariables false
namespace Go.Ag
open Go
section
variable {P : Program} {n : Nat} {cf : Cfg} {rob : Nat → Bool} {t : T} {σ : H} {K : AV → H → Prop} {Kp : Value → H → Prop} {Q : AQ}
theorem aix_ro {q : Nat} {xs : List (List AV)} {k : Nat} {r : List AV} (hx : xs[k]? = some r) (hq : r.length = q) {K : AV → Prop} (hk : K (.elt r)) : aixT (some (q, none)) (.ro xs) k K := by
  refine ⟨(List.getElem?_eq_some_iff.1 hx).1, fun r' hr => ?_⟩
  rw [hx] at hr; cases hr
  exact ⟨hq, hk⟩
/-- What a call gives may be read-only from now on. -/
theorem ACalls.frz {f : FuncId} {as : List AV} {R R' : AEnd → H → Prop} (h : ACalls P f as σ R) (hr : ∀ e σ', R e σ' → match e with
    | .ret y => ∃ σ'' y', FrzH σ' σ'' ∧ Frz σ' σ'' y y' ∧ R' (.ret y') σ''
    | .pan v => R' (.pan v) σ') : ACalls P f as σ R' := by
  refine ⟨h.1, fun vs w ha hR => (h.2 vs w ha hR).mono ?_⟩
  rintro e w' ⟨ae, σ', h1, h2, h3, h4, h5⟩
  have := hr _ _ h1
  cases ae with
  | ret y =>
    obtain ⟨σ'', y', hf, hy, hr'⟩ := this
    cases e with
    | returned v => exact ⟨.ret y', σ'', hr', hy.sound h3 hf.sub h2, hf.sound h3, h4, fun b hb hd => h5 b hb (hf.sub b hd)⟩
    | _ => cases h2
  | pan v => exact ⟨.pan v, σ', this, h2, h3, h4, h5⟩
theorem upd_none3 (σ : H) (b c : Nat) (o : AObj) : (σ.upd b o c = none) = (¬ c = b ∧ ¬ b = c ∧ σ c = none) := by
  rw [upd_none_iff]
  apply propext
  constructor
  · rintro ⟨h1, h2⟩; exact ⟨h1, fun h => h1 h.symm, h2⟩
  · rintro ⟨h1, _, h2⟩; exact ⟨h1, h2⟩
theorem AMake_of {ty e : TypeId} {q by_ : Nat} {z : List AV} {n c : Int} (h1 : tel P ty = some (q, none)) (h2 : tbytes P ty = some (e, by_)) (h3 : tzero P e = some z) (hz : z.length = q) (hn : 0 ≤ n) (hnc : n ≤ c) (hc : c ≤ 9223372036854775807)
    (hb : by_ * c ≤ 140737488355328) (hk : ∀ b, σ b = none → K (.sl b n.toNat q e) (σ.upd b (.rows e q (List.replicate n.toNat z)))) : AMake P ty σ n c K := by
  unfold AMake
  rw [h1, h2]
  simp only [h3]
  exact ⟨hn, hnc, hc, hb, hz, hk⟩
theorem abytes_map (l : List Int) : abytes (l.map fun x => [AV.v (.int .u8 x)]) = some l := by
  induction l with
  | nil => rfl
  | cons x l ih => simp [abytes, ih]
theorem u8_inj {a b : Int} (ha : 0 ≤ a ∧ a < 256) (hb : 0 ≤ b ∧ b < 256) (h : UInt8.ofNat a.toNat = UInt8.ofNat b.toNat) : a = b := by
  have h2 := congrArg UInt8.toNat h
  simp at h2; omega
theorem bstr_inj : ∀ {a b : List Int}, (∀ x ∈ a, 0 ≤ x ∧ x < 256) → (∀ x ∈ b, 0 ≤ x ∧ x < 256) → (a.map fun n => UInt8.ofNat n.toNat) = (b.map fun n => UInt8.ofNat n.toNat) → a = b
  | [], [], _, _, _ => rfl
  | [], _ :: _, _, _, h => by simp at h
  | _ :: _, [], _, _, h => by simp at h
  | x :: a, y :: b, ha, hb, h => by
    simp only [List.map_cons, List.cons.injEq] at h
    rw [u8_inj (ha x (by simp)) (hb y (by simp)) h.1, bstr_inj (fun z hz => ha z (by simp [hz])) (fun z hz => hb z (by simp [hz])) h.2]
theorem bstr_beq {a b : List Int} (ha : ∀ x ∈ a, 0 ≤ x ∧ x < 256) (hb : ∀ x ∈ b, 0 ≤ x ∧ x < 256) : ((bstr a).toList == (bstr b).toList) = decide (a = b) := by
  unfold bstr
  rw [bytes_toList, bytes_toList]
  by_cases h : a = b
  · simp [h]
  · rw [decide_eq_false h, beq_eq_false_iff_ne]
    exact fun h2 => h (bstr_inj ha hb h2)
/-- Read-only parts, one by one. -/
inductive FrzL (σ σ' : H) : List AV → List AV → Prop
  | nil : FrzL σ σ' [] []
  | cons {c d : AV} {cs ds : List AV} (h : Frz σ σ' c d) (t : FrzL σ σ' cs ds) : FrzL σ σ' (c :: cs) (d :: ds)
theorem FrzL.get {σ σ' : H} {cs ds : List AV} (h : FrzL σ σ' cs ds) : cs.length = ds.length ∧ ∀ (i : Nat) (c d : AV), cs[i]? = some c → ds[i]? = some d → Frz σ σ' c d := by
  induction h with
  | nil => exact ⟨rfl, fun i c d h => by simp at h⟩
  | cons h t ih =>
    refine ⟨by simp [ih.1], fun i c d hc hd => ?_⟩
    cases i with
    | zero => simp at hc hd; subst hc; subst hd; exact h
    | succ i => simp at hc hd; exact ih.2 i c d hc hd
theorem Frz.aggL {σ σ' : H} {cs ds : List AV} (h : FrzL σ σ' cs ds) : Frz σ σ' (.agg cs) (.agg ds) := .agg _ _ h.get.1 h.get.2
theorem Frz.tupL {σ σ' : H} {cs ds : List AV} (h : FrzL σ σ' cs ds) : Frz σ σ' (.tup cs) (.tup ds) := .tup _ _ h.get.1 h.get.2
theorem FrzL.refl {σ σ' : H} : ∀ cs, FrzL σ σ' cs cs
  | [] => .nil
  | c :: cs => .cons (.refl c) (.refl cs)
theorem ACalls.arg {f : FuncId} {as as' : List AV} {σ : H} {R : AEnd → H → Prop} (hf : FrzL σ σ as as') (h : ACalls P f as' σ R) : ACalls P f as σ R := by
  refine ⟨h.1, fun vs w ha hR => h.2 vs w ⟨by rw [← hf.get.1]; exact ha.len, fun i c x hc hx => ?_⟩ hR⟩
  have hi : i < as.length := by rw [hf.get.1]; exact (List.getElem?_eq_some_iff.1 hc).1
  have h1 := List.getElem?_eq_getElem hi
  exact (hf.get.2 i _ c h1 hc).sound hR (fun _ h => h) (ha.rel i _ x h1 hx)
end
end Go.Ag
