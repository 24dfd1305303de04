/- AnchorMoved: for every rule, member, bar, legs, and shift the law returns true, and each argument reads behind the call as before. No condition. -/
import Derived.Test.YtiebbklljckbdaaLawMoved
import Derived.Test.YtiebbklljckbdaaOpenD
set_option linter.unusedVariables false
set_option linter.unusedSimpArgs false
namespace Go.Proofs.Ytiebbklljckbdaa
open Go.ChangeShapes Go.WideShapes Go.ChangeAt Go.RowKit
section
variable {H : Type} {enc : TypeId × Value → H} {w : World} {base : Nat} {sp : Nat → Bool} {hd : Bool}
theorem arg_pt {cs : Array Value} {d : DataW H} {p : List MemPlace} (h : DataW.Trod enc Try.prog w base sp hd 50 (.agg cs) d p) :
    ∃ b : Pt, cs = (ptVal b).cells ∧ PtI b := by
  obtain ⟨fuel, hf⟩ := h
  obtain ⟨b, hr, hi⟩ := opn_pt hf rfl
  refine ⟨b, ?_, hi⟩
  have : cs.toList = (ptVal b).cells.toList := hr
  exact Array.toList_inj.1 this
end
theorem moved_walk (r : Rule) (m : Mem) (A : Option Addr) (n c : Nat) (A' : Option Addr) (n' c' : Nat) (b : Bar) (D : Option Addr) (dn dc : Nat) (L : Option Addr) (k kc : Nat) (xs : List Bx) (d : Pt) (B : Nat) (w : World) (hB : B ≤ w.heap.size)
    (hA : EndsAt w B A n A' n' m D dn b L k xs) :
    Calls Try.prog 8 #[ruleV r, memV m A n c A' n' c', barV b D dn dc, .slice L k kc, ptVal d] w fun e w' => e = .returned (.bool true) ∧ Below w.heap.size w w' := by
  by_cases hg : S.large m b k = true ∨ S.given r m b xs ≠ 0
  · exact moved_no r m A n c A' n' c' b D dn dc L k kc xs d B w hB hA hg
  · have h1 : S.large m b k = false := by
      cases h : S.large m b k
      · rfl
      · exact absurd (.inl h) hg
    have h2 : S.given r m b xs = 0 := by
      by_cases h : S.given r m b xs = 0
      · exact h
      · exact absurd (.inr h) hg
    by_cases hd : Small d
    · exact moved_yes r m A n c A' n' c' b D dn dc L k kc xs d B w hB hA h1 h2 hd
    · exact moved_far r m A n c A' n' c' b D dn dc L k kc xs d B w hB hA h1 h2 hd
theorem laidOut_anchorMoved : laidOutB Try.prog = true := by kernel_rfl
set_option maxRecDepth 100000 in
theorem anchorMoved_lifted (os : Os) (started : os.Started) (H : Type) (enc : TypeId × Value → H) :
    ReturnsInHanded {} Try.checked os 8 .any (Rows.anchorMovedSpec.pre6 enc Try.prog Try.f8 Rows.anchorMovedRow.domain false) (Rows.anchorMovedSpec.post enc Try.prog Try.f8 false true false false) := by
  refine returnsInHanded_of_change (C := Try.checked) own started (by kernel_rfl) Try.func8
    (ChangeSpec.witness6 (enc := enc) (C := Try.checked) false ⟨#[], #[.agg #[.int .i64 0, .int .i64 0, .int .i64 0, .int .i64 0, .int .i64 0, .int .i64 0, .int .i64 0, .int .i64 0, .int .i64 0], .agg #[.string ⟨#[]⟩, .slice none 0 0, .slice none 0 0, .int .i64 0, .int .i64 0, .int .i64 0], .agg #[.string ⟨#[]⟩, .int .i64 0, .int .i64 0, .int .i64 0, .slice none 0 0], .slice none 0 0, .agg #[.int .i64 0, .int .i64 0, .int .i64 0]], []⟩ 8 (by kernel_rfl) (by kernel_rfl) (by kernel_rfl) (by kernel_rfl)) ?_
  intro W base args ds gs before hval0 hW hcnd _
  have hval : ∀ (j : Nat) t v, Try.f8.params[j]? = some t → args[j]? = some v → Value.okWide Try.prog W .any base t v := hval0
  have hW' := hW
  obtain ⟨p, q, hA0, hV, rfl, hfz, hnd⟩ := hW
  have hA : DataW.TrodAll enc Try.prog W 0 (fun _ => true) true Try.f8.params.toList args.toList ds p := hA0
  rw [Try.params8] at hA hval
  obtain ⟨v0, vs0, d0, ds0, p0, q0, hargs, rfl, rfl, h0, r0⟩ := trodAll_cons hA
  obtain ⟨v1, vs1, d1, ds1, p1, q1, rfl, rfl, rfl, h1, r1⟩ := trodAll_cons r0
  obtain ⟨v2, vs2, d2, ds2, p2, q2, rfl, rfl, rfl, h2, r2⟩ := trodAll_cons r1
  obtain ⟨v3, vs3, d3, ds3, p3, q3, rfl, rfl, rfl, h3, r3⟩ := trodAll_cons r2
  obtain ⟨v4, vs4, d4, ds4, p4, q4, rfl, rfl, rfl, h4, r4⟩ := trodAll_cons r3
  obtain ⟨rfl, rfl, rfl⟩ := trodAll_nil r4
  obtain rfl : args = #[v0, v1, v2, v3, v4] := by cases args; simp_all
  obtain ⟨rfl, rfl⟩ := trodVars_none hV
  have k0 := h0
  have lt0 : ∀ x ∈ p0, x.block < W.heap.size := by obtain ⟨m, hm⟩ := k0; exact DataW.trod_lt m _ _ _ hm
  have o0 := hval 0 23 v0 rfl rfl
  have k1 := h1
  have lt1 : ∀ x ∈ p1, x.block < W.heap.size := by obtain ⟨m, hm⟩ := k1; exact DataW.trod_lt m _ _ _ hm
  have o1 := hval 1 48 v1 rfl rfl
  have k2 := h2
  have lt2 : ∀ x ∈ p2, x.block < W.heap.size := by obtain ⟨m, hm⟩ := k2; exact DataW.trod_lt m _ _ _ hm
  have o2 := hval 2 55 v2 rfl rfl
  have k3 := h3
  have lt3 : ∀ x ∈ p3, x.block < W.heap.size := by obtain ⟨m, hm⟩ := k3; exact DataW.trod_lt m _ _ _ hm
  have o3 := hval 3 44 v3 rfl rfl
  have k4 := h4
  have lt4 : ∀ x ∈ p4, x.block < W.heap.size := by obtain ⟨m, hm⟩ := k4; exact DataW.trod_lt m _ _ _ hm
  have o4 := hval 4 50 v4 rfl rfl
  clear hA0 hval0 hval
  obtain ⟨cs0, rfl, _⟩ := okWide_struct Try.underlying23 o0
  obtain ⟨r, rfl, _⟩ := arg_rule h0
  obtain ⟨cs1, rfl, _⟩ := okWide_struct Try.underlying48 o1
  obtain ⟨m, A, n, c, A', n', c', rfl, hSol, _, _, _, _, hMem⟩ := arg_member h1
  obtain ⟨cs2, rfl, _⟩ := okWide_struct Try.underlying55 o2
  obtain ⟨b, D, dn, dc, rfl, hBar, _⟩ := arg_bar h2
  obtain ⟨L, k, kc, rfl⟩ := okWide_slice Try.underlying44 o3
  obtain ⟨xs, hlen, hkc, hmax, hlegs, _⟩ := arg_boxes h3
  obtain ⟨cs4, rfl, _⟩ := okWide_struct Try.underlying50 o4
  obtain ⟨d, rfl, _⟩ := arg_pt h4
  have hmx : maxLen ≤ 9223372036854775807 := by unfold maxLen; decide
  refine (moved_walk r m A n c A' n' c' b D dn dc L k kc xs d W.heap.size W (Nat.le_refl _) ⟨hSol, hBar, hlegs, hlen, by omega, hMem.name⟩).mono fun e W' ⟨he, bel⟩ => ?_
  subst he
  exact ⟨_, rfl, _, _, _, [], _, [], hW', trodAll_mk1 (shut_bool Try.underlying4 _), (trodAll_cons_mk (Below.trod laidOut_anchorMoved (by kernel_rfl) (of_decide_eq_true (by kernel_rfl)) k0 bel lt0) (trodAll_cons_mk (Below.trod laidOut_anchorMoved (by kernel_rfl) (of_decide_eq_true (by kernel_rfl)) k1 bel lt1) (trodAll_cons_mk (Below.trod laidOut_anchorMoved (by kernel_rfl) (of_decide_eq_true (by kernel_rfl)) k2 bel lt2) (trodAll_cons_mk (Below.trod laidOut_anchorMoved (by kernel_rfl) (of_decide_eq_true (by kernel_rfl)) k3 bel lt3) (trodAll_cons_mk (Below.trod laidOut_anchorMoved (by kernel_rfl) (of_decide_eq_true (by kernel_rfl)) k4 bel lt4) trodAll_mk0))))), rfl, bel.frame _, fun h => by cases h⟩
theorem anchorMoved_over : Rows.anchorMovedRow.holds Try.pinned (OpenSpec.ofChange Rows.anchorMovedSpec) :=
  OpenClaim.holds_of_wide 8 Try.f8 rfl rfl rfl rfl rfl rfl rfl ⟨rfl, rfl, rfl, rfl, rfl⟩ rfl rfl rfl rfl rfl (by kernel_rfl) Try.func8 (by kernel_rfl)
    (of_decide_eq_true (by kernel_rfl)) (by unfold Func.isWrapper; first | (rw [if_pos (by decide +kernel)]; kernel_rfl) | (rw [if_neg (by decide +kernel)]; exact ⟨rfl, rfl⟩))
    (fun os started H enc _ => anchorMoved_lifted os started H enc)
/-- The statement. -/
theorem anchorMoved_holds : Rows.AnchorMovedSaid := anchorMoved_over
#print axioms anchorMoved_holds
end Go.Proofs.Ytiebbklljckbdaa
