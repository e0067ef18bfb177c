/- A part of the proof: A15. -/
import Derived.Test.YtlchnjgnfomiaaaA14
import Derived.Deep.LoopGhost
set_option linter.unusedSimpArgs false
set_option linter.unusedVariables false
namespace Go.Ag
open Go

/-- What a function's evaluation is told: which boxes are read-only; how each region that draws is gone through; which temporaries lead to what such a region writes. -/
structure Cfg where
  rob : Nat → Bool := fun _ => true
  pl : Nat → Plan := fun _ => .stop
  wl : Nat → List Tmp := fun _ => []
  wa : Nat → Bool := fun _ => false
  sg : Nat → List Seg := fun _ => []
  lv : Nat → Option (List Tmp) := fun _ => none

/-- What a region that draws may write. -/
def Wreg (cf : Cfg) (id : Nat) (t : T) : Nat → Prop := if cf.wa id then fun _ => True else Wof t (cf.wl id)
/-- A loop: a relation by a number that each round lowers. -/
def vcLoop (B : AQ → T → H → Prop) (Q : AQ) (t : T) (σ : H) : Prop :=
  ∃ (I : Nat → T → H → Prop) (n0 : Nat), (∃ t' σ', Sub t' t ∧ FrzH σ σ' ∧ I n0 t' σ') ∧
      ∀ k t σ, I k t σ → B (thenQ (fun t' σ' => ∃ m, m < k ∧ ∃ t'' σ'', Sub t'' t' ∧ FrzH σ' σ'' ∧ I m t'' σ'') Q) t σ

def vc (P : Program) (n : Nat) (cf : Cfg) : Code → AQ → T → H → Prop
  | .skip, Q, t, σ => Q .normal t σ
  | .label _, Q, t, σ => Q .normal t σ
  | .exit id, Q, t, σ => Q (.exit id) t σ
  | .ret, Q, t, σ => Q .ret t σ
  | .seq a b, Q, t, σ => vc P n cf a (thenQ (vc P n cf b Q) Q) t σ
  | .cond c x y, Q, t, σ => one t c fun q => (match q with
    | .v (.bool q) => (q = true → vc P n cf x Q t σ) ∧ (q = false → vc P n cf y Q t σ)
    | _ => False)
  | .block id b, Q, t, σ => vc P n cf b (blockQ id Q) t σ
  | .loop b, Q, t, σ => vcLoop (vc P n cf b) Q t σ
  | .region id ops draw, Q, t, σ => if draw then vcPlan P n cf.rob (Wreg cf id t) ops (keepQ (cf.lv id) Q) (cf.pl id) t σ else vcSegs P n cf.rob ops.toList (keepQ (cf.lv id) Q) (cf.sg id) ops.toList t σ
  | _, _, _, _ => False


def okCode (pl : Nat → Plan) : Code → Bool
  | .seq a b => okCode pl a && okCode pl b
  | .cond _ a b => okCode pl a && okCode pl b
  | .block _ b => okCode pl b
  | .loop b => okCode pl b
  | .region id ops draw => if draw then okPlan ops (pl id) none ops.size (Array.replicate ops.size false) else true
  | _ => true

section
variable {P : Program} {n : Nat}
theorem vc_sound {cf : Cfg} (hm : P.follows .mixedOrders = true) : ∀ (c : Code), okCode cf.pl c = true → ∀ (Q : AQ) (t : T) (σ : H) (a : Act) (w : World), vc P n cf c Q t σ → TR t a.tmps w (dom σ) → HR σ w → a.defers = [] → a.tmps.size = n → c.wp P (γ n Q σ w) a w := by
  intro c
  induction c with
  | skip => intro hok Q t σ a w h hT hR hd hs; exact wp_skip ⟨hd, hs, t, σ, h, hT, hR, Le.refl _ _, DomOk.refl _ _⟩
  | label l => intro hok Q t σ a w h hT hR hd hs; exact wp_label ⟨hd, hs, t, σ, h, hT, hR, Le.refl _ _, DomOk.refl _ _⟩
  | exit id => intro hok Q t σ a w h hT hR hd hs; exact wp_exit ⟨hd, hs, t, σ, h, hT, hR, Le.refl _ _, DomOk.refl _ _⟩
  | ret => intro hok Q t σ a w h hT hR hd hs; exact wp_ret ⟨hd, hs, t, σ, h, hT, hR, Le.refl _ _, DomOk.refl _ _⟩
  | seq x y ihx ihy =>
    intro hok; simp only [okCode, Bool.and_eq_true] at hok; intro Q t σ a w h hT hR hd hs
    refine wp_seq (wp_mono (ihx hok.1 _ t σ a w h hT hR hd hs) fun e a' w' hq => ?_)
    cases e <;> simp only [γ, Exit.then] at hq ⊢
    case normal =>
      obtain ⟨h1, h2, t', σ', h3, h4, h5, h6, h7⟩ := hq
      exact wp_mono (ihy hok.2 Q t' σ' a' w' h3 h4 h5 h1 h2) fun e a'' w'' hq' => hq'.trans h6 h7
    all_goals exact hq
  | cond c x y ihx ihy =>
    intro hok; simp only [okCode, Bool.and_eq_true] at hok; intro Q t σ a w h hT hR hd hs
    obtain ⟨q, hq, _, hqv⟩ := one_sound (a := a) h hT
    split at hq <;> try (exact hq.elim)
    rename_i b _
    have ec : a.eval c = .bool b := by generalize a.eval c = z at hqv; cases hqv; rfl
    exact wp_cond_split ec (fun hb => ihx hok.1 Q t σ a w (hq.1 hb) hT hR hd hs) (fun hb => ihy hok.2 Q t σ a w (hq.2 hb) hT hR hd hs)
  | block id b ih =>
    intro hok; simp only [okCode] at hok; intro Q t σ a w h hT hR hd hs
    refine wp_block (wp_mono (ih hok _ t σ a w h hT hR hd hs) fun e a' w' hq => ?_)
    cases e <;> simp only [γ, Exit.inBlock] at hq ⊢
    case exit id' =>
      split
      · rename_i hid
        refine hq.mono fun t' σ' hh => ?_
        simp only [blockQ] at hh
        rw [if_pos hid] at hh
        exact hh
      · rename_i hid
        refine hq.mono fun t' σ' hh => ?_
        simp only [blockQ] at hh
        rw [if_neg hid] at hh
        exact hh
    all_goals exact hq
  | loop b ih =>
    intro hok; simp only [okCode] at hok; intro Q t σ a w h hT hR hd hs
    obtain ⟨I, n0, ⟨t', σ', hsub, hfz, hI⟩, hround⟩ := h
    refine wp_loop_ghost (fun k a' w' => Good n σ w (I k) a' w') n0 ⟨hd, hs, t', σ', hI, (hsub.tr hT).mono (Le.refl _ _) (fun b _ hb => hfz.sub b hb), hfz.sound hR, Le.refl _ _, fun b _ hb => hfz.sub b hb⟩ ?_
    intro k a1 w1 hg
    obtain ⟨g1, g2, t1, σ1, g3, g4, g5, g6, g7⟩ := hg
    refine wp_mono (ih hok _ t1 σ1 a1 w1 (hround k t1 σ1 g3) g4 g5 g1 g2) fun e a' w' hq => ?_
    cases e <;> simp only [γ, Exit.then] at hq ⊢
    case normal =>
      obtain ⟨h1, h2, t2, σ2, ⟨m, hm, t3, σ3, hs3, hf3, hI3⟩, h4, h5, h6, h7⟩ := hq
      exact ⟨m, hm, h1, h2, t3, σ3, hI3, (hs3.tr h4).mono (Le.refl _ _) (fun b _ hb => hf3.sub b hb), hf3.sound h5, g6.trans h6 g7, fun b hb hd => g7.trans h7 g6.size b hb (hf3.sub b hd)⟩
    case panic ch => obtain ⟨v, h1, h2⟩ := hq; exact ⟨v, h1, h2.trans g6 g7⟩
    all_goals first | exact hq.trans g6 g7 | exact hq
  | region id ops draw =>
    intro hok Q t σ a w h hT hR hd hs
    simp only [vc] at h
    split at h
    · rename_i hdr
      subst hdr
      simp only [okCode, if_true] at hok
      refine wp_region_any hm ?_
      have h1 := vcPlan_sound (cf.pl id) (Array.replicate ops.size false) ops.size t σ hok h
      have hdr : HR σ { w with drawn := w.drawn + 1 } := hR.drew
      have := awpAny_sound ops.size _ t σ a { w with drawn := w.drawn + 1 } h1 (hT.mono (Le.drew _ w) (DomOk.refl _ _)) hdr hd hs
      exact wpAny_mono (fun e a'' w'' hq => (keepQ_sound hq).trans (Le.drew _ w) (DomOk.refl _ _)) _ _ _ _ this
    · rename_i hdr
      obtain rfl : draw = false := by simpa using hdr
      exact wp_region_list (wpList_mono (fun e a'' w'' hq => keepQ_sound hq) _ _ _ (vcSegs_sound (cf.sg id) ops.toList t σ a w h hT hR hd hs))
  | rangeFunc => intro hok Q t σ a w h; exact h.elim
  | scope => intro hok Q t σ a w h; exact h.elim
  | goto => intro hok Q t σ a w h; exact h.elim
  | refuse => intro hok Q t σ a w h; exact h.elim
end
end Go.Ag
