/- Findings: what they contain (no program in sight); contracts: slices.IndexFunc and ContainsFunc over findings. -/
import Derived.Test.YtpjdepnbeendcaaCheck
import Derived.Test.YtpjdepnbeendcaaIdxF
set_option linter.unusedVariables false
set_option linter.unusedSimpArgs false
namespace Go.Proofs.Ytpjdepnbeendcaa
open Go.RowKit
theorem mem_kindL {r d : Int} {L i : Nat} {n x : Int} : x ∈ S.kindL r d L i n ↔ S.kind r d L i n = x ∧ x ≠ 0 := by
  unfold S.kindL
  split
  · rename_i h
    constructor
    · intro hx; simp at hx
    · rintro ⟨h1, h2⟩; exact absurd (h1.symm.trans h) h2
  · rename_i h
    constructor
    · intro hx
      rw [List.mem_singleton] at hx
      exact ⟨hx.symm, hx ▸ h⟩
    · rintro ⟨h1, _⟩
      rw [List.mem_singleton]; exact h1.symm
theorem mem_kindsTo {r d : Int} {l : List Int} {x : Int} : ∀ {m : Nat}, x ∈ S.kindsTo r d l m ↔ ∃ (j : Nat) (n : Int), j < m ∧ l[j]? = some n ∧ S.kind r d l.length j n = x ∧ x ≠ 0 := by
  intro m
  induction m with
  | zero => simp [S.kindsTo]
  | succ m ih =>
    simp only [S.kindsTo, List.mem_append, ih]
    constructor
    · rintro (⟨j, n, h1, h2⟩ | h)
      · exact ⟨j, n, by omega, h2⟩
      · split at h
        · rename_i n hn
          exact ⟨m, n, by omega, hn, mem_kindL.1 h⟩
        · simp at h
    · rintro ⟨j, n, h1, h2, h3⟩
      by_cases hj : j = m
      · subst hj
        right
        rw [h2]
        exact mem_kindL.2 h3
      · exact .inl ⟨j, n, by omega, h2, h3⟩
theorem kind_cases (r d : Int) (L i : Nat) (n : Int) : S.kind r d L i n = 0 ∨ S.kind r d L i n = 1 ∨ S.kind r d L i n = 2 := by
  unfold S.kind
  repeat' split
  all_goals simp
theorem kind_one {r d : Int} {L i : Nat} {n : Int} : S.kind r d L i n = 1 ↔ (i = 0 ∨ i + 1 = L) ∧ n < r + 5 * d := by
  unfold S.kind
  split
  · rename_i h
    split
    · rename_i h2; simp [h, h2]
    · rename_i h2; simp [h2]
  · rename_i h
    split
    · simp [h]
    · simp [h]
theorem kind_two {r d : Int} {L i : Nat} {n : Int} : S.kind r d L i n = 2 ↔ ¬(i = 0 ∨ i + 1 = L) ∧ n < 2 * r := by
  unfold S.kind
  split
  · rename_i h
    split
    · simp [h]
    · simp [h]
  · rename_i h
    split
    · rename_i h2; simp [h, h2]
    · rename_i h2; simp [h2]
def S.outside (k : Int) : Bool := decide (k < 1) || decide (2 < k)
def S.isK (x : Int) (k : Int) : Bool := k == x
theorem finds_in (b : Bar) : anyb (S.finds b) S.outside = false := by
  unfold anyb
  rw [List.any_eq_false]
  intro x hx
  unfold S.finds at hx
  split at hx
  · simp at hx
  · obtain ⟨j, n, _, _, h3, h4⟩ := mem_kindsTo.1 hx
    rcases kind_cases (S.radius b.size) b.size (S.legLens b).length j n with h | h | h <;> rw [h3] at h <;> subst h <;> simp [S.outside] at h4 ⊢
theorem finds_has (b : Bar) (h : ¬(S.legsOf b.code).length = 1) (x : Int) (hx : x ≠ 0) : anyb (S.finds b) (S.isK x) = true ↔ ∃ (j : Nat) (n : Int), j < (S.legsOf b.code).length ∧ (S.legLens b)[j]? = some n ∧ S.kind (S.radius b.size) b.size (S.legsOf b.code).length j n = x := by
  have hl : (S.legLens b).length = (S.legsOf b.code).length := by simp [S.legLens]
  unfold anyb S.finds
  rw [if_neg h, List.any_eq_true]
  constructor
  · rintro ⟨y, hy, he⟩
    have : y = x := by simpa [S.isK] using he
    subst this
    obtain ⟨j, n, h1, h2, h3, _⟩ := mem_kindsTo.1 hy
    rw [hl] at h3
    exact ⟨j, n, h1, h2, h3⟩
  · rintro ⟨j, n, h1, h2, h3⟩
    refine ⟨x, mem_kindsTo.2 ⟨j, n, h1, h2, ?_, hx⟩, by simp [S.isK]⟩
    rw [hl]; exact h3
/-- What a function value of one finding with the mark answers: p of its kind, and memory of its own at most. -/
def AsksF (mk : ByteArray) (w : World) (F : Nat) (fst cap : Array Value) (p : Int → Bool) : Prop :=
  ∀ (x : Int) (w' : World), Below w.heap.size w w' → Calls Try.prog F (fst.push (.agg #[.int .i64 x, .string mk]) ++ cap) w' fun e w'' => e = .returned (.bool (p x)) ∧ Below w'.heap.size w' w''
theorem indexfF_any (F : Nat) (fst cap : Array Value) (p : Int → Bool) (A : Option Addr) (n c : Nat) (ks : List Int) (mk : ByteArray) (B : Nat) (w : World) (hn : ks.length = n) (hm : n ≤ 9223372036854775807) (hB : B ≤ w.heap.size)
    (hs : Cells w B A (ks.flatMap (fC mk))) (hF : ∀ args w, Sem.run Try.prog (callFunc F args) w = .ok (.enter F args) w) (hf : AsksF mk w F fst cap p) :
    Calls Try.prog 79 #[.slice A n c, .func (.func F) fst cap] w fun e w' => e = .returned (.int .i64 (idxf ks p)) ∧ Below w.heap.size w w' := by
  have HN := Lib.hid hn
  clear hn
  go_enter Try.func79, Try.ntmps79
  go_wp2
  go_loopw [8] (fun i wr => ∃ k : Nat, k ≤ n ∧ i = .int .i64 k ∧ (∀ j (h : j < ks.length), j < k → p ks[j] = false) ∧ Below w.heap.size w wr) (fun i _ => n - (intOf i).toNat)
  case atStart => exact ⟨0, Nat.zero_le _, rfl, fun j _ hj => absurd hj (by omega), Below.refl _ _⟩
  case round =>
    obtain ⟨k, hk, rfl, hno, hbr⟩ := hrel
    have HNO := Lib.hid hno
    clear hno
    by_cases hlt : k < n
    · have hkx : k < ks.length := by have := HN.out; omega
      have hs' := hs.below (hbr.mono hB)
      obtain ⟨b, o, rfl, _, _⟩ := hs'.at_ (by rw [flat_len (fC mk) 2 (fC_len mk)]; omega)
      have c0 := hs'.row0 (fC_len mk) hkx rfl
      have c1 := hs'.rowj (fC_len mk) hkx 1 rfl
      by_cases hx : p ks[k] = true
      · go_wp2_with (refine (hf _ _ hbr).mono ?_; rintro e w1 ⟨rfl, hb1⟩)
        go_ret
        exact ⟨ret_i (idxf_hit hkx hx HNO.out).symm, hbr.trans (hb1.mono hbr.size)⟩
      · have hx' : p ks[k] = false := by simpa using hx
        clear hx
        go_wp2_with (refine (hf _ _ hbr).mono ?_; rintro e w1 ⟨rfl, hb1⟩)
        go_roundw
        case rel =>
          refine ⟨k + 1, by omega, by go_num, fun j hj hjk => ?_, hbr.trans (hb1.mono hbr.size)⟩
          by_cases hjk' : j = k
          · subst hjk'; exact hx'
          · exact HNO.out j hj (by omega)
        case measure => simp [intOf]; omega
    · go_wp2
      go_ret
      exact ⟨ret_i (idxf_miss (fun j hj => HNO.out j hj (by have := HN.out; omega))).symm, hbr⟩
theorem containsfF_any (F : Nat) (fst cap : Array Value) (p : Int → Bool) (A : Option Addr) (n c : Nat) (ks : List Int) (mk : ByteArray) (B : Nat) (w : World) (hn : ks.length = n) (hm : n ≤ 9223372036854775807) (hB : B ≤ w.heap.size)
    (hs : Cells w B A (ks.flatMap (fC mk))) (hF : ∀ args w, Sem.run Try.prog (callFunc F args) w = .ok (.enter F args) w) (hf : AsksF mk w F fst cap p) :
    Calls Try.prog 61 #[.slice A n c, .func (.func F) fst cap] w fun e w' => e = .returned (.bool (anyb ks p)) ∧ Below w.heap.size w w' := by
  have HN := Lib.hid hn
  have HF := Lib.hid hF
  have he : decide (0 ≤ idxf ks p) = anyb ks p := idxf_ge ks p
  clear hn hF
  go_enter Try.func61, Try.ntmps61
  go_wp2_with (go_at_call 79; (with_reducible refine (indexfF_any F fst cap p _ _ _ ks mk B _ HN.out hm hB hs HF.out hf).mono ?_); rintro e w1 ⟨rfl, hbw1⟩; obtain ⟨hcw1, hfw1⟩ := bcell hbw1)
  go_ret
  exact ⟨rfl, (by repeat (first | exact Below.refl _ _ | assumption | refine ba_alloc ?_ _ | refine ba_drew ?_ | refine ba_drewN ?_ _ | refine ba_via (by assumption) ?_ | (refine ba_set ?_ ?_ _; rotate_left; (first | omega | (simp; omega) | simp))))⟩
/-- The function that asks for a kind. -/
theorem isk_any (mk : ByteArray) (x q : Int) (g : Nat) (w : World) (hc : w.cell? ⟨g, 0, none⟩ = some (.int .i64 x)) (hg : g < w.heap.size) :
    Calls Try.prog 62 #[.agg #[.int .i64 q, .string mk], .pointer (some ⟨g, 0, none⟩)] w fun e w' => e = .returned (.bool (S.isK x q)) ∧ Below w.heap.size w w' := by
  go_enter Try.func62, Try.ntmps62
  go_wp2
  go_ret
  exact ⟨rfl, (by repeat (first | exact Below.refl _ _ | assumption | refine ba_alloc ?_ _ | refine ba_drew ?_ | refine ba_drewN ?_ _ | refine ba_via (by assumption) ?_ | (refine ba_set ?_ ?_ _; rotate_left; (first | omega | (simp; omega) | simp))))⟩
theorem outside_any (mk : ByteArray) (q : Int) (g : Nat) (w : World) (hc : w.cell? ⟨g, 0, none⟩ = some (.string mk)) (hg : g < w.heap.size) :
    Calls Try.prog 63 #[.agg #[.int .i64 q, .string mk], .pointer (some ⟨g, 0, none⟩)] w fun e w' => e = .returned (.bool (S.outside q)) ∧ Below w.heap.size w w' := by
  have H := Lib.hid (show S.outside q = (decide (q < 1) || decide (2 < q)) from rfl)
  go_enter Try.func63, Try.ntmps63
  go_wp2
  all_goals (go_ret; exact ⟨ret_b (by rw [H.out, Bool.eq_iff_iff]; all_goals (first | (simp; done) | (simp; omega))), (by repeat (first | exact Below.refl _ _ | assumption | refine ba_alloc ?_ _ | refine ba_drew ?_ | refine ba_drewN ?_ _ | refine ba_via (by assumption) ?_ | (refine ba_set ?_ ?_ _; rotate_left; (first | omega | (simp; omega) | simp))))⟩)
/-- The function that asks whether there is a finding of a kind. -/
theorem hask_any (mk : ByteArray) (x : Int) (ks : List Int) (A : Option Addr) (n c g : Nat) (B : Nat) (w : World) (hB : B ≤ w.heap.size) (hn : ks.length = n) (hm : n ≤ 9223372036854775807) (hs : Cells w B A (ks.flatMap (fC mk)))
    (hc : w.cell? ⟨g, 0, none⟩ = some (.slice A n c)) (hg : g < w.heap.size) :
    Calls Try.prog 60 #[.int .i64 x, .pointer (some ⟨g, 0, none⟩)] w fun e w' => e = .returned (.bool (anyb ks (S.isK x))) ∧ Below w.heap.size w w' := by
  have hf : AsksF mk (w.alloc (.cells #[.int .i64 x] 3)) 62 #[] #[.pointer (some ⟨w.heap.size, 0, none⟩)] (S.isK x) := fun q w' hb =>
    isk_any mk x q w.heap.size w' ((hb.cell (p := ⟨w.heap.size, 0, none⟩) (by simp)).trans (by simp)) (Nat.lt_of_lt_of_le (by simp) hb.size)
  have HF := Lib.hid hf
  have HN := Lib.hid hn
  have HS := Lib.hid hs
  clear hf hn hs
  go_enter Try.func60, Try.ntmps60
  go_wp2_with (go_at_call 61; (with_reducible refine (containsfF_any 62 #[] #[.pointer (some ⟨w.heap.size, 0, none⟩)] (S.isK x) A n c ks mk B _ HN.out hm (by first | omega | (simp; omega)) (HS.out.alloc hB _) Try.call62 HF.out).mono ?_); rintro e w1 ⟨rfl, hbw1⟩; obtain ⟨hcw1, hfw1⟩ := bcell hbw1)
  go_ret
  exact ⟨rfl, (by repeat (first | exact Below.refl _ _ | assumption | refine ba_alloc ?_ _ | refine ba_drew ?_ | refine ba_drewN ?_ _ | refine ba_via (by assumption) ?_ | (refine ba_set ?_ ?_ _; rotate_left; (first | omega | (simp; omega) | simp))))⟩
end Go.Proofs.Ytpjdepnbeendcaa
