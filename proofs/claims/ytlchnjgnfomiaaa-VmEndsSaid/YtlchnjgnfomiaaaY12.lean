/- VmEnds: whatever program, packet and port: no run does more instructions than there are, and with a nil among the tables nothing is done; no conditions. -/
import Derived.Test.YtlchnjgnfomiaaaY11
import Derived.Test.YtlchnjgnfomiaaaA18
import Derived.Test.YtlchnjgnfomiaaaRows
set_option linter.unusedSimpArgs false
set_option linter.unusedVariables false
open Go Go.Ag Go.Proofs
namespace Y
theorem wf_u64 {n : Int} (h : (Lit.int .u64 n).wf = true) : 0 ≤ n ∧ n < 18446744073709551616 := by
  simp [Lit.wf, IntKind.min, IntKind.max, IntKind.signed, IntKind.bits] at h; omega
theorem wf_u8 {n : Int} (h : (Lit.int .u8 n).wf = true) : 0 ≤ n ∧ n < 256 := by
  simp [Lit.wf, IntKind.min, IntKind.max, IntKind.signed, IntKind.bits] at h; omega
theorem wf_i64 {n : Int} (h : (Lit.int .i64 n).wf = true) : -9223372036854775808 ≤ n ∧ n < 9223372036854775808 := by
  simp [Lit.wf, IntKind.min, IntKind.max, IntKind.signed, IntKind.bits] at h; omega
theorem sh_bytes {cs : List AV} (h : Shaped (.sl 1 (.int .u8)) cs) : ∃ l : List Int, cs = [.ro (l.map u8r)] ∧ (∀ x ∈ l, 0 ≤ x ∧ x < 256) ∧ l.length ≤ maxLen := by
  obtain ⟨xs, rfl, hl, hx⟩ := h
  obtain ⟨l, rfl, hq⟩ := listShape (f := u8r) (Q := fun x => 0 ≤ x ∧ x < 256) (xs := xs) (fun r hr => by
    obtain ⟨n, rfl, hw⟩ := hx r hr
    exact ⟨n, rfl, wf_u8 hw⟩)
  exact ⟨l, rfl, hq, by simpa using hl⟩
theorem sh_prog {cs : List AV} (h : Shaped (.cons (.int .i64) 1 (.cons (.sl 3 (.cons (.int .i64) 1 (.cons (.int .i64) 1 (.cons (.int .i64) 1 .nil)))) 1 (.cons (.sl 6 (.cons (.int .i64) 1 (.cons (.int .i64) 1 (.cons (.int .i64) 1 (.cons (.int .i64) 1 (.cons (.int .i64) 1 (.cons (.int .u64) 1 .nil))))))) 1 .nil))) cs) :
    ∃ p : Prog, cs = p.c ∧ p.tabs.length ≤ maxLen ∧ p.code.length ≤ maxLen ∧ (∀ x ∈ p.code, 0 ≤ x.n ∧ x.n < 18446744073709551616) := by
  obtain ⟨_, _, rfl, _, ⟨slots, rfl, _⟩, _, _, rfl, _, ⟨ts, rfl, htl, ht⟩, _, _, rfl, _, ⟨xs, rfl, hxl, hx⟩, rfl⟩ := h
  obtain ⟨tabs, rfl, _⟩ := listShape (f := Shape.c) (Q := fun _ => True) (xs := ts) (fun r hr => by
    obtain ⟨_, _, rfl, _, ⟨a, rfl, _⟩, _, _, rfl, _, ⟨b, rfl, _⟩, _, _, rfl, _, ⟨c, rfl, _⟩, rfl⟩ := ht r hr
    exact ⟨⟨a, b, c⟩, rfl, trivial⟩)
  obtain ⟨code, rfl, hc⟩ := listShape (f := Ins.c) (Q := fun x => 0 ≤ x.n ∧ x.n < 18446744073709551616) (xs := xs) (fun r hr => by
    obtain ⟨_, _, rfl, _, ⟨a, rfl, _⟩, _, _, rfl, _, ⟨b, rfl, _⟩, _, _, rfl, _, ⟨c, rfl, _⟩, _, _, rfl, _, ⟨d, rfl, _⟩, _, _, rfl, _, ⟨e, rfl, _⟩, _, _, rfl, _, ⟨f, rfl, hf⟩, rfl⟩ := hx r hr
    exact ⟨⟨a, b, c, d, e, f⟩, rfl, wf_u64 hf⟩)
  exact ⟨⟨slots, tabs, code⟩, rfl, by simpa using htl, by simpa using hxl, hc⟩
end Y
namespace Go.Proofs.Ytlchnjgnfomiaaa
open Go.ChangeShapes Go.WideShapes Go.ChangeAt Go.RowKit Y
theorem own : ownKnob Try.prog.godebug = none := by kernel_rfl
theorem laidOut : laidOutB Try.prog = true := by kernel_rfl
theorem rty0 : tyOf Try.prog 12 58 = some (.cons (.int .i64) 1 (.cons (.sl 3 (.cons (.int .i64) 1 (.cons (.int .i64) 1 (.cons (.int .i64) 1 (.nil))))) 1 (.cons (.sl 6 (.cons (.int .i64) 1 (.cons (.int .i64) 1 (.cons (.int .i64) 1 (.cons (.int .i64) 1 (.cons (.int .i64) 1 (.cons (.int .u64) 1 (.nil)))))))) 1 (.nil)))) := by kernel_rfl
theorem rag0 : (tsz Try.prog 58).map (·.2) = some true := by kernel_rfl
theorem rty1 : tyOf Try.prog 12 59 = some (.sl 1 (.int .u8)) := by kernel_rfl
theorem rag1 : (tsz Try.prog 59).map (·.2) = some false := by kernel_rfl
theorem rty2 : tyOf Try.prog 12 3 = some (.int .i64) := by kernel_rfl
theorem rag2 : (tsz Try.prog 3).map (·.2) = some false := by kernel_rfl
theorem rbool : Try.prog.underlying 4 = some .bool := by kernel_rfl
set_option maxRecDepth 100000 in
theorem lifted (os : Os) (started : os.Started) (Hd : Type) (enc : TypeId × Value → Hd) :
    ReturnsInHanded {} Try.checked os 5 .any (Rows.vmEndsSpec.pre6 enc Try.prog Try.f5 Rows.vmEndsRow.domain false) (Rows.vmEndsSpec.post enc Try.prog Try.f5 false true false false) := by
  refine returnsInHanded_of_change (C := Try.checked) own started (by kernel_rfl) Try.func5
    (ChangeSpec.witness6 (enc := enc) (C := Try.checked) false ⟨#[], #[.agg #[.int .i64 0, .slice none 0 0, .slice none 0 0], .slice none 0 0, .int .i64 0], []⟩ 8 (by kernel_rfl) (by kernel_rfl) (by kernel_rfl) (by kernel_rfl)) ?_
  intro W base args ds gs before hval0 hW hcnd _
  have hval : ∀ (j : Nat) t v, Try.f5.params[j]? = some t → args[j]? = some v → Value.okWide Try.prog W .any base t v := hval0
  have hW' := hW
  obtain ⟨p, q, hA0, hV, rfl, hfz, hnd⟩ := hW
  have hA : DataW.TrodAll enc Try.prog W 0 (fun _ => true) true Try.f5.params.toList args.toList ds p := hA0
  rw [Try.params5] at hA hval
  obtain ⟨v0, vs0, d0, ds0, p0, q0, hargs, rfl, rfl, h0, r0⟩ := trodAll_cons hA
  obtain ⟨v1, vs1, d1, ds1, p1, q1, rfl, rfl, rfl, h1, r1⟩ := trodAll_cons r0
  obtain ⟨v2, vs2, d2, ds2, p2, q2, rfl, rfl, rfl, h2, r2⟩ := trodAll_cons r1
  obtain ⟨rfl, rfl, rfl⟩ := trodAll_nil r2
  obtain rfl : args = #[v0, v1, v2] := by cases args; simp_all
  obtain ⟨rfl, rfl⟩ := trodVars_none hV
  have k0 := h0
  have lt0 : ∀ x ∈ p0, x.block < W.heap.size := by obtain ⟨m, hm⟩ := k0; exact DataW.trod_lt m _ _ _ hm
  obtain ⟨cs0, s0, g0, n0⟩ := open_arg rty0 (hval 0 58 v0 rfl rfl) h0
  replace g0 := g0 rag0
  have k1 := h1
  have lt1 : ∀ x ∈ p1, x.block < W.heap.size := by obtain ⟨m, hm⟩ := k1; exact DataW.trod_lt m _ _ _ hm
  obtain ⟨cs1, s1, g1, n1⟩ := open_arg rty1 (hval 1 59 v1 rfl rfl) h1
  replace n1 := n1 rag1
  have k2 := h2
  have lt2 : ∀ x ∈ p2, x.block < W.heap.size := by obtain ⟨m, hm⟩ := k2; exact DataW.trod_lt m _ _ _ hm
  obtain ⟨cs2, s2, g2, n2⟩ := open_arg rty2 (hval 2 3 v2 rfl rfl) h2
  replace n2 := n2 rag2
  have hwalk : Calls Try.prog 5 #[v0, v1, v2] W fun e W2 => e = .returned (.bool true) ∧ Below W.heap.size W W2 := by
    rw [← dom_none] at g0 n1 n2
    obtain ⟨p, rfl, ht, hl, hn⟩ := sh_prog s0
    obtain ⟨b, rfl, hb, hbl⟩ := sh_bytes s1
    obtain ⟨port, rfl, _⟩ := sh_int s2
    unfold maxLen at ht hl hbl
    exact law_calls ((c_vmEnds p b port H.none (by omega) (by omega) hn (by omega) hb).mono fun e _ h => h.1) (ar_of (ar_cons g0 (ar_cons (n1 _ rfl) (ar_cons (n2 _ rfl) ar_nil))))
  clear hA0 hval0
  refine hwalk.mono fun e W2 ⟨he, bel⟩ => ?_
  subst he
  exact ⟨_, rfl, _, _, _, [], _, [], hW', trodAll_mk1 (shut_bool rbool _), (trodAll_cons_mk (Below.trod laidOut (by kernel_rfl) (of_decide_eq_true (by kernel_rfl)) k0 bel lt0) (trodAll_cons_mk (Below.trod laidOut (by kernel_rfl) (of_decide_eq_true (by kernel_rfl)) k1 bel lt1) (trodAll_cons_mk (Below.trod laidOut (by kernel_rfl) (of_decide_eq_true (by kernel_rfl)) k2 bel lt2) trodAll_mk0))), rfl, bel.frame _, fun h => by cases h⟩
theorem vmEnds_holds : Rows.VmEndsSaid :=
  OpenClaim.holds_of_wide 5 Try.f5 rfl rfl rfl rfl rfl rfl rfl ⟨rfl, rfl, rfl, rfl, rfl⟩ rfl rfl rfl rfl rfl (by kernel_rfl) Try.func5 (by kernel_rfl)
    (of_decide_eq_true (by kernel_rfl)) (by unfold Func.isWrapper; first | (rw [if_pos (by decide +kernel)]; kernel_rfl) | (rw [if_neg (by decide +kernel)]; exact ⟨rfl, rfl⟩))
    (fun os started Hd enc _ => lifted os started Hd enc)
#print axioms vmEnds_holds
end Go.Proofs.Ytlchnjgnfomiaaa
