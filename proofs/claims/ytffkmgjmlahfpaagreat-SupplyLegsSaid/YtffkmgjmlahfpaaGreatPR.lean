/- Spans; contracts: lap.place, up, Stagger. Contracts: the reference's names. The plain functions (no program in sight). Maps of the call's own: sets of ints (map[int]bool), and map[int]int: look-ups an -/
import Derived.Maps.OwnOps
import Derived.Maps.OwnSet
import Derived.Test.YtffkmgjmlahfpaaGreatRows
import Derived.Test.YtffkmgjmlahfpaaGreatPE
import Derived.Test.YtffkmgjmlahfpaaGreatPD
import Derived.Test.YtffkmgjmlahfpaaGreatPC
import Derived.Test.YtffkmgjmlahfpaaGreatPB
set_option linter.unusedVariables false
set_option linter.unusedSimpArgs false
namespace Go.Proofs.YtffkmgjmlahfpaaGreat
open Go.RowKit
structure Sp where
  lo : Int
  hi : Int
namespace S
def place (n : Int) : Bool := decide (-1048576 ≤ n) && decide (n ≤ 1048576)
def wide (a b : Sp) : Int := if a.hi - a.lo < b.hi - b.lo then b.hi - b.lo else a.hi - a.lo
end S
end Go.Proofs.YtffkmgjmlahfpaaGreat
namespace Go.Proofs.YtffkmgjmlahfpaaGreat
open Go.RowKit
theorem rletter_any (c : Int) (w : World) (h0 : 0 ≤ c) (h1 : c ≤ 255) : Calls Tryz.prog 171 #[.int .u8 c] w fun e w' => e = .returned (.bool (S.letter c)) ∧ w = w' := by
  have H := Lib.hid (show S.letter c = (decide (97 ≤ c) && decide (c ≤ 122) || decide (65 ≤ c) && decide (c ≤ 90)) from rfl)
  go_enter Tryz.func171, Tryz.ntmps171
  go_wp2
  all_goals (go_ret; exact ⟨ret_b (by rw [H.out, Bool.eq_iff_iff]; simp; omega), rfl⟩)
theorem rdigit_any (c : Int) (w : World) (h0 : 0 ≤ c) (h1 : c ≤ 255) : Calls Tryz.prog 229 #[.int .u8 c] w fun e w' => e = .returned (.bool (S.digit c)) ∧ w = w' := by
  have H := Lib.hid (show S.digit c = (decide (48 ≤ c) && decide (c ≤ 57)) from rfl)
  go_enter Tryz.func229, Tryz.ntmps229
  go_wp2
  all_goals (go_ret; exact ⟨ret_b (by rw [H.out, Bool.eq_iff_iff]; simp; omega), rfl⟩)
set_option maxHeartbeats 1000000 in
theorem rword_any (s : ByteArray) (w : World) (hs : s.size ≤ 9223372036854775807) : Calls Tryz.prog 172 #[.string s, .int .i64 0] w fun e w' => e = .returned (.int .i64 (S.wordl s.data.toList : Nat)) ∧ w = w' := by
  go_enter Tryz.func172, Tryz.ntmps172
  go_wp2
  go_loop [1] (fun i => ∃ k : Nat, k ≤ s.size ∧ i = .int .i64 k ∧ Hid (∀ j c, j < k → s.data.toList[j]? = some c → S.wordc c.toNat = true)) (fun i => s.size - (intOf i).toNat)
  case atStart => exact ⟨0, Nat.zero_le _, rfl, Lib.hid fun j c hj => absurd hj (by omega)⟩
  case round =>
    obtain ⟨k, hk, rfl, HNO⟩ := hrel
    by_cases hlt : k < s.size
    · have hb := byte_bd s[k]
      have hget : s.data.toList[k]? = some s[k] := by simp [hlt]; rfl
      have HG := Lib.hid hget
      clear hget
      cases hl : S.letter s[k].toNat <;> cases hd : S.digit s[k].toNat <;> cases hu : ((s[k].toNat : Int) == 95)
      all_goals
        go_wp2_with (first
          | (go_at_call 171; (with_reducible refine (rletter_any _ _ hb.1 hb.2).mono ?_); rintro e w' ⟨rfl, rfl⟩)
          | (go_at_call 229; (with_reducible refine (rdigit_any _ _ hb.1 hb.2).mono ?_); rintro e w' ⟨rfl, rfl⟩))
        first
          | (go_ret
             exact ⟨ret_i (by rw [wordl_stop (k := k) HNO.out (by simp; omega) (.inr ⟨_, HG.out, by simp [S.wordc, hl, hd, hu]⟩)]), rfl⟩)
          | (go_round
             case rel => exact ⟨k + 1, by omega, by go_num, Lib.hid (wordl_more HNO.out HG.out (by simp [S.wordc, hl, hd, hu]))⟩
             case measure => simp [intOf]; omega)
    · go_wp2
      go_ret
      exact ⟨ret_i (by rw [wordl_stop (k := k) HNO.out (by simp; omega) (.inl (by simp; omega))]), rfl⟩
set_option maxHeartbeats 1000000 in
theorem risname_any (s : ByteArray) (w : World) (hs : s.size ≤ 9223372036854775807) : Calls Tryz.prog 112 #[.string s] w fun e w' => e = .returned (.bool (S.isName s)) ∧ w = w' := by
  have H := Lib.hid (show S.isName s = (!(s.size == 0) && decide (s.size ≤ 20) && S.letter ((s.data.toList.headD 0).toNat) && S.wordl s.data.toList == s.size) from rfl)
  have hwl := wordl_le s.data.toList
  rw [show s.data.toList.length = s.size from rfl] at hwl
  by_cases h0 : s.size = 0
  · have he : s.toList = [] := by rw [Go.ByteArray.toList_eq]; exact List.eq_nil_of_length_eq_zero h0
    have he2 : s.toList.isEmpty = true := by rw [he]; rfl
    have hz : ((s.size : Int) == 0) = true := beq_iff_eq.2 (by omega)
    have H0 := Lib.hid h0
    clear h0
    go_enter Tryz.func112, Tryz.ntmps112
    go_wp2
    go_ret
    exact ⟨ret_b (by rw [H.out, H0.out]; simp), rfl⟩
  · have hlt : 0 < s.size := by omega
    have he2 : s.toList.isEmpty = false := by
      rw [Go.ByteArray.toList_eq]
      cases hl : s.data.toList with
      | nil => exact absurd (congrArg List.length hl) h0
      | cons x l => rfl
    have hz : ((s.size : Int) == 0) = false := beq_eq_false_iff_ne.2 (by omega)
    have hb := byte_bd s[0]
    have hh : s.data.toList.headD 0 = s[0] := by
      have hg : s.data.toList[0]? = some s[0] := by simp [hlt]; rfl
      cases hl : s.data.toList with
      | nil => rw [hl] at hg; simp at hg
      | cons x l => rw [hl] at hg; simp at hg; simpa using hg
    have HH := Lib.hid hh
    have H0 := Lib.hid h0
    clear h0 hh
    by_cases h20 : s.size ≤ 20
    · have h20' : decide ((s.size : Int) ≤ 20) = true := by simp; omega
      have h20'' : decide ((20 : Int) < s.size) = false := by simp; omega
      cases hl : S.letter s[0].toNat
      · go_enter Tryz.func112, Tryz.ntmps112
        go_wp2_with (go_at_call 171; (with_reducible refine (rletter_any _ _ hb.1 hb.2).mono ?_); rintro e w' ⟨rfl, rfl⟩)
        go_ret
        exact ⟨ret_b (by rw [H.out, HH.out, hl]; simp), rfl⟩
      · cases hw : (S.wordl s.data.toList == s.size)
        · have hw2 : (((S.wordl s.data.toList : Nat) : Int) == (s.size : Int)) = false := by simp at hw ⊢; omega
          go_enter Tryz.func112, Tryz.ntmps112
          go_wp2_with (first
            | (go_at_call 171; (with_reducible refine (rletter_any _ _ hb.1 hb.2).mono ?_); rintro e w' ⟨rfl, rfl⟩)
            | (go_at_call 172; (with_reducible refine (rword_any s _ hs).mono ?_); rintro e w' ⟨rfl, rfl⟩))
          go_ret
          exact ⟨ret_b (by rw [H.out, HH.out, hl, hw]; simp), rfl⟩
        · have hw2 : (((S.wordl s.data.toList : Nat) : Int) == (s.size : Int)) = true := by simp at hw ⊢; omega
          go_enter Tryz.func112, Tryz.ntmps112
          go_wp2_with (first
            | (go_at_call 171; (with_reducible refine (rletter_any _ _ hb.1 hb.2).mono ?_); rintro e w' ⟨rfl, rfl⟩)
            | (go_at_call 172; (with_reducible refine (rword_any s _ hs).mono ?_); rintro e w' ⟨rfl, rfl⟩))
          go_ret
          exact ⟨ret_b (by rw [H.out, HH.out, hl, hw]; simp [H0.out, h20]), rfl⟩
    · have h20' : decide ((s.size : Int) ≤ 20) = false := by simp; omega
      have h20'' : decide ((20 : Int) < s.size) = true := by simp; omega
      go_enter Tryz.func112, Tryz.ntmps112
      go_wp2
      go_ret
      exact ⟨ret_b (by rw [H.out]; simp [h20]), rfl⟩
end Go.Proofs.YtffkmgjmlahfpaaGreat
namespace Go.Proofs.YtffkmgjmlahfpaaGreat
structure Rule where
  num : Int
  den : Int
  pnum : Int
  pden : Int
  bnum : Int
  bden : Int
  lnum : Int
  lden : Int
  least : Int
namespace S
def num (n : Int) : Bool := decide (1 ≤ n) && decide (n ≤ 1000)
def up (n p q : Int) : Int := (n * p + q - 1) / q
def rule (r : Rule) : Bool := num r.num && num r.den && num r.pnum && num r.pden && num r.bnum && num r.bden && num r.lnum && num r.lden &&
  decide (r.pden ≤ r.pnum) && decide (r.lden ≤ r.lnum) && decide (r.bnum ≤ r.bden) && decide (0 ≤ r.least) && decide (r.least ≤ 1000)
def basic (r : Rule) (d : Int) : Int := if up d r.num r.den < r.least then r.least else up d r.num r.den
def poorUp (r : Rule) (poor : Bool) (n : Int) : Int := if poor then up n r.pnum r.pden else n
def bentUp (r : Rule) (bent : Bool) (n : Int) : Int := if bent then up n r.bnum r.bden else n
def atLeast (r : Rule) (n : Int) : Int := if n < r.least then r.least else n
def length (r : Rule) (d : Int) (poor bent : Bool) : Int := atLeast r (bentUp r bent (poorUp r poor (basic r d)))
end S
structure RuleOk (r : Rule) : Prop where
  num : 1 ≤ r.num ∧ r.num ≤ 1000
  den : 1 ≤ r.den ∧ r.den ≤ 1000
  pnum : 1 ≤ r.pnum ∧ r.pnum ≤ 1000
  pden : 1 ≤ r.pden ∧ r.pden ≤ 1000
  bnum : 1 ≤ r.bnum ∧ r.bnum ≤ 1000
  bden : 1 ≤ r.bden ∧ r.bden ≤ 1000
  lnum : 1 ≤ r.lnum ∧ r.lnum ≤ 1000
  lden : 1 ≤ r.lden ∧ r.lden ≤ 1000
  poor : r.pden ≤ r.pnum
  lap : r.lden ≤ r.lnum
  bend : r.bnum ≤ r.bden
  least : 0 ≤ r.least ∧ r.least ≤ 1000
theorem rule_ok {r : Rule} (h : S.rule r = true) : RuleOk r := by
  simp only [S.rule, S.num, Bool.and_eq_true, decide_eq_true_eq] at h
  obtain ⟨⟨⟨⟨⟨⟨⟨⟨⟨⟨⟨⟨h1, h2⟩, h3⟩, h4⟩, h5⟩, h6⟩, h7⟩, h8⟩, h9⟩, h10⟩, h11⟩, h12⟩, h13⟩ := h
  exact ⟨h1, h2, h3, h4, h5, h6, h7, h8, h9, h10, h11, ⟨h12, h13⟩⟩
theorem mul_bd {a b A B : Int} (ha : 0 ≤ a) (hA : a ≤ A) (hb : 0 ≤ b) (hB : b ≤ B) : 0 ≤ a * b ∧ a * b ≤ A * B :=
  ⟨Int.mul_nonneg ha hb, Int.mul_le_mul hA hB hb (by omega)⟩
theorem up_bd {n p q A : Int} (hn : 0 ≤ n) (hA : n ≤ A) (hp : 1 ≤ p) (hp' : p ≤ 1000) (hq : 1 ≤ q) : 0 ≤ S.up n p q ∧ S.up n p q ≤ 1000 * A := by
  unfold S.up
  have h1 := mul_bd hn hA (by omega : 0 ≤ p) hp'
  refine ⟨Int.ediv_nonneg (by omega) (by omega), ?_⟩
  have h2 : (n * p + q - 1) / q ≤ n * p := by
    rcases Int.lt_or_eq_of_le h1.1 with h | h
    · have : n * p + q - 1 < (n * p + 1) * q := by
        have := Int.mul_le_mul_of_nonneg_left hq (show 0 ≤ n * p by omega)
        rw [Int.add_mul]; omega
      have := Int.ediv_lt_of_lt_mul (by omega) this
      omega
    · rw [← h, Int.zero_add, Int.ediv_eq_zero_of_lt (by omega) (by omega)]
      exact Int.le_refl 0
  have := Int.mul_comm A 1000
  omega
theorem basic_bd {r : Rule} {d : Int} (hr : RuleOk r) (hd : 0 ≤ d) (hd' : d ≤ 40) : 0 ≤ S.basic r d ∧ S.basic r d ≤ 40000 := by
  have h := up_bd (p := r.num) (q := r.den) hd hd' hr.num.1 hr.num.2 hr.den.1
  have h2 := hr.least
  unfold S.basic
  split <;> omega
theorem poorUp_bd {r : Rule} {n : Int} (hr : RuleOk r) (b : Bool) (hn : 0 ≤ n) (hn' : n ≤ 40000) : 0 ≤ S.poorUp r b n ∧ S.poorUp r b n ≤ 40000000 := by
  have h := up_bd (p := r.pnum) (q := r.pden) hn hn' hr.pnum.1 hr.pnum.2 hr.pden.1
  unfold S.poorUp
  split <;> omega
theorem bentUp_bd {r : Rule} {n : Int} (hr : RuleOk r) (b : Bool) (hn : 0 ≤ n) (hn' : n ≤ 40000000) : 0 ≤ S.bentUp r b n ∧ S.bentUp r b n ≤ 40000000000 := by
  have h := up_bd (p := r.bnum) (q := r.bden) hn hn' hr.bnum.1 hr.bnum.2 hr.bden.1
  unfold S.bentUp
  split <;> omega
end Go.Proofs.YtffkmgjmlahfpaaGreat
namespace Go.Proofs.YtffkmgjmlahfpaaGreat
open Go.RowKit
open Go.Maps (Keyed int_keyed keyOf_int_mk)
def Wf64 (k : Int) : Prop := -9223372036854775808 ≤ k ∧ k ≤ 9223372036854775807
theorem Wf64.lit {k : Int} (h : Wf64 k) : (Lit.int .i64 k).wf = true := by
  have h1 := h.1
  have h2 := h.2
  simp [Lit.wf, IntKind.min, IntKind.max, IntKind.bits, IntKind.signed]
  omega
theorem keyInt : Keyed Tryz.prog 3 := int_keyed Tryz.underlying3
theorem keyLit {k : Int} (h : Wf64 k) : keyOf Tryz.prog 3 (.int .i64 k) = some (.int .i64 k) := keyOf_int_mk Tryz.underlying3 h.lit
theorem zeroBool (w : World) : (zeroValue 4).run Tryz.prog w = .ok (.bool false) w := by kernel_rfl
theorem zeroInt (w : World) : (zeroValue 3).run Tryz.prog w = .ok (.int .i64 0) w := by kernel_rfl
theorem plainElem_bool_inv {H : Type} {P : Program} {e : TypeId} (he : P.underlying e = some .bool) {v : Value} {z : DataW H × List MemPlace} (h : plainElem P e v = some z) : ∃ x, v = .bool x ∧ z = (.lit (.bool x), []) := by
  unfold plainElem at h
  rw [he] at h
  cases v <;> simp at h
  exact ⟨_, rfl, h.symm⟩
def SetAt (w : World) (b n : Nat) (p : Int → Bool) : Prop := ∃ D : DataW Unit, w.ownsMap Tryz.prog 3 (plainElem Tryz.prog 4) b n D ∧ ∀ k, D.atKey (.int .i64 k) (.lit (.bool false)) = .lit (.bool (p k))
theorem SetAt.new (w : World) : SetAt (w.alloc (.map #[] 0)) w.heap.size 0 (fun _ => false) := ⟨.map [], World.ownsMap_made w _ _ _, fun k => rfl⟩
theorem SetAt.lt {w : World} {b n : Nat} {p : Int → Bool} (h : SetAt w b n p) : b < w.heap.size := by obtain ⟨D, h1, _⟩ := h; exact h1.lt
theorem SetAt.kept {w w' : World} {b n : Nat} {p : Int → Bool} (h : SetAt w b n p) (hb : w'.heap[b]? = w.heap[b]?) : SetAt w' b n p := by
  obtain ⟨D, ⟨es, clock, h1, h2⟩, h3⟩ := h
  exact ⟨D, ⟨es, clock, hb.trans h1, h2⟩, h3⟩
theorem SetAt.alloc {w : World} {b n : Nat} {p : Int → Bool} (h : SetAt w b n p) (o : Obj) : SetAt (w.alloc o) b n p := h.kept (Below.heap_alloc w o b h.lt)
theorem SetAt.via {w w' : World} {b n : Nat} {p : Int → Bool} (h : SetAt w b n p) (hb : Below w.heap.size w w') : SetAt w' b n p := h.kept (hb.block b h.lt)
theorem SetAt.look {w : World} {b n : Nat} {p : Int → Bool} (h : SetAt w b n p) {k : Int} (hk : Wf64 k) : (Instr.lookup 191 (.map (some b)) (.int .i64 k) false).run Tryz.prog w = .ok (.bool (p k)) w := by
  obtain ⟨D, h1, h2⟩ := h
  obtain ⟨v, ps, hrun, hv⟩ := h1.lookup keyInt Tryz.underlying191 (zeroBool w) (plainElem_bool Tryz.underlying4 false) (keyLit hk)
  obtain ⟨x, rfl, hx⟩ := plainElem_bool_inv Tryz.underlying4 hv
  rw [h2 k] at hx
  simp only [Prod.mk.injEq, DataW.lit.injEq, Lit.bool.injEq] at hx
  rw [hrun, hx.1]
theorem SetAt.put {w : World} {b n : Nat} {p : Int → Bool} (h : SetAt w b n p) (hn : n < maxLen) {k : Int} (hk : Wf64 k) :
    ∃ w', (Instr.mapUpdate 191 (.map (some b)) (.int .i64 k) (.bool true)).run Tryz.prog w = .ok () w' ∧ SetAt w' b (n + 1) (fun j => j == k || p j) ∧ w.grownBy w' (some b) := by
  obtain ⟨D, h1, h2⟩ := h
  obtain ⟨w', hrun, hown, hg⟩ := h1.update keyInt Tryz.underlying191 hn (keyLit hk) (plainElem_bool Tryz.underlying4 true)
  refine ⟨w', hrun, ⟨_, hown, fun j => ?_⟩, hg⟩
  by_cases hj : j = k
  · subst hj
    rw [Maps.atKey_put_same h1.isMap (by simp [WideAt.IsKeyLit])]
    simp
  · rw [Maps.atKey_put_other (by simpa using hj), h2 j]
    simp [hj]
def NextAt (w : World) (b n : Nat) (f : Int → Option Int) : Prop := ∃ D : DataW Unit, w.ownsMap Tryz.prog 3 (plainElem Tryz.prog 3) b n D ∧ ∀ k, Maps.has D (.int .i64 k) = (f k).isSome ∧ D.atKey (.int .i64 k) (.lit (.int .i64 0)) = .lit (.int .i64 ((f k).getD 0))
theorem NextAt.new (w : World) : NextAt (w.alloc (.map #[] 0)) w.heap.size 0 (fun _ => none) := ⟨.map [], World.ownsMap_made w _ _ _, fun k => ⟨rfl, rfl⟩⟩
theorem NextAt.lt {w : World} {b n : Nat} {p : Int → Option Int} (h : NextAt w b n p) : b < w.heap.size := by obtain ⟨D, h1, _⟩ := h; exact h1.lt
theorem NextAt.kept {w w' : World} {b n : Nat} {p : Int → Option Int} (h : NextAt w b n p) (hb : w'.heap[b]? = w.heap[b]?) : NextAt w' b n p := by
  obtain ⟨D, ⟨es, clock, h1, h2⟩, h3⟩ := h
  exact ⟨D, ⟨es, clock, hb.trans h1, h2⟩, h3⟩
theorem NextAt.alloc {w : World} {b n : Nat} {p : Int → Option Int} (h : NextAt w b n p) (o : Obj) : NextAt (w.alloc o) b n p := h.kept (Below.heap_alloc w o b h.lt)
theorem NextAt.via {w w' : World} {b n : Nat} {p : Int → Option Int} (h : NextAt w b n p) (hb : Below w.heap.size w w') : NextAt w' b n p := h.kept (hb.block b h.lt)
theorem NextAt.look {w : World} {b n : Nat} {f : Int → Option Int} (h : NextAt w b n f) {k : Int} (hk : Wf64 k) : (Instr.lookup 194 (.map (some b)) (.int .i64 k) true).run Tryz.prog w = .ok (.tuple #[.int .i64 ((f k).getD 0), .bool (f k).isSome]) w := by
  obtain ⟨D, h1, h2⟩ := h
  obtain ⟨v, ps, hrun, hv⟩ := h1.look_ok keyInt Tryz.underlying194 (zeroInt w) (plainElem_int Tryz.underlying3 (by decide)) (keyLit hk)
  obtain ⟨x, rfl, hx, _⟩ := plainElem_int_inv Tryz.underlying3 hv
  rw [(h2 k).2] at hx
  simp only [Prod.mk.injEq, DataW.lit.injEq, Lit.int.injEq, true_and] at hx
  rw [hrun, hx.1, (h2 k).1]
theorem NextAt.put {w : World} {b n : Nat} {f : Int → Option Int} (h : NextAt w b n f) (hn : n < maxLen) {k v : Int} (hk : Wf64 k) (hv : Wf64 v) :
    ∃ w', (Instr.mapUpdate 194 (.map (some b)) (.int .i64 k) (.int .i64 v)).run Tryz.prog w = .ok () w' ∧ NextAt w' b (n + 1) (fun j => if j = k then some v else f j) ∧ w.grownBy w' (some b) := by
  obtain ⟨D, h1, h2⟩ := h
  obtain ⟨w', hrun, hown, hg⟩ := h1.update keyInt Tryz.underlying194 hn (keyLit hk) (plainElem_int Tryz.underlying3 hv.lit)
  refine ⟨w', hrun, ⟨_, hown, fun j => ?_⟩, hg⟩
  by_cases hj : j = k
  · subst hj
    rw [Maps.atKey_put_same h1.isMap (by simp [WideAt.IsKeyLit]), Maps.has_put_same h1.isMap (by simp [WideAt.IsKeyLit])]
    simp
  · rw [Maps.atKey_put_other (by simpa using hj), Maps.has_put_other (by simpa using hj), (h2 j).1, (h2 j).2]
    simp [hj]
end Go.Proofs.YtffkmgjmlahfpaaGreat
namespace Go.Proofs.YtffkmgjmlahfpaaGreat
open Go.RowKit
section
variable {P : Program} {ops : Array Oper} {md : Region.Mode} {C : World → Prop} {n : Nat}
def sink1B (md : Region.Mode) (ops : Array Oper) (n : Nat) : Bool :=
  (List.range n).all fun i => decide (i < 1) || (List.range (n + 1)).any fun j => decide (i < j) && Region.waitsFor md ops j i
theorem tail_waits1 {listed : Array Bool} (hs : sink1B md ops n = true) (hc : Region.chainB md ops n = true) (hn : n < ops.size) (inv : HeadInv md ops n listed) :
    ∀ (d i : Nat), n - i = d → 1 ≤ i → i < n → listed.getD i true = false → ∀ t, n ≤ t → t ∉ Region.ready md ops listed := by
  intro d
  induction d using Nat.strongRecOn with
  | _ d ih =>
    intro i hd h1i hi hun t ht hr
    obtain ⟨_, ot, hot, hall⟩ := mem_ready.1 hr
    have htlt : t < ops.size := (Array.getElem?_eq_some_iff.1 hot).1
    by_cases htn : t = n
    · subst htn
      have h1 := List.all_eq_true.1 hs i (List.mem_range.2 hi)
      simp only [Bool.or_eq_true, decide_eq_true_eq] at h1
      replace h1 := h1.resolve_left (by omega)
      obtain ⟨j, hj, hj2⟩ := List.any_eq_true.1 h1
      simp only [Bool.and_eq_true, decide_eq_true_eq] at hj2
      obtain ⟨oj, hoj, e, he, hb, hon⟩ := Region.waitsFor_spec hj2.2
      have hjle : j ≤ t := by have := List.mem_range.1 hj; omega
      by_cases hjt : j = t
      · subst hjt
        have : oj = ot := Option.some.inj (hoj.symm.trans hot)
        subst this
        have h2 := hall e he hb
        rw [hon, getD_both hun] at h2
        cases h2
      · cases hl : listed.getD j false with
        | true =>
          have h2 := inv.closed j oj hoj hl e he hb
          rw [hon, getD_both hun] at h2
          cases h2
        | false =>
          have hjs : j < listed.size := by rw [inv.size]; omega
          exact ih (t - j) (by omega) j rfl (by omega) (by omega) (getD_in hjs hl) t (Nat.le_refl _) hr
    · have h1 := List.all_eq_true.1 hc t (List.mem_range.2 htlt)
      simp only [Bool.or_eq_true, decide_eq_true_eq] at h1
      rcases h1 with h1 | h1
      · omega
      · obtain ⟨o', ho', e, he, hb, hon⟩ := Region.waitsFor_spec h1
        have : o' = ot := Option.some.inj (ho'.symm.trans hot)
        subst this
        have h2 := hall e he hb
        rw [hon, getD_both (inv.tail (t - 1) (by omega) (by omega))] at h2
        cases h2
theorem headQ_first1 {i : Nat} {oi : Oper} {v : Value} {L : Array Bool → Act → Prop} (hi : ops[i]? = some oi) (hsel : ∀ (j : Nat) (o : Oper) cs b, ops[j]? = some o → o.op ≠ .select cs b)
    (hs : sink1B md ops n = true) (hc : Region.chainB md ops n = true) (hn : n < ops.size) (h1i : 1 ≤ i) (hin : i < n) (hdone : ∀ listed a, L listed a → ∀ j, j ∈ Region.ready md ops listed → n ≤ j) :
    ∀ (f : Nat) (listed : Array Bool) (a : Act), HeadInv md ops n listed →
      (∀ j oj, ops[j]? = some oj → j ≠ i → listed.getD j true = false → (∀ e ∈ oj.after, Region.binds md e = true → e.on ≠ i) → oi.apart ops oj = true) →
      i ∈ Region.ready md ops listed → YieldsIn P ops C oi v a → headQ P md ops C n L f (listed.setIfInBounds i true) (a.put oi.dst v) → headQ P md ops C n L (f + 1) listed a := by
  intro f
  induction f with
  | zero =>
    intro listed a inv _ hr hy H
    refine ⟨fun h => by rw [h] at hr; exact absurd hr (by simp), fun j hj => ?_⟩
    have hjn : j < n := Nat.lt_of_not_le fun h => tail_waits1 hs hc hn inv _ i rfl h1i hin (mem_ready.1 hr).1 j h hj
    refine ⟨hjn, ?_⟩
    by_cases hji : j = i
    · subst hji
      exact hy.qOp hi H
    · exact absurd (hdone _ _ H j (ready_mono hj hji)) (by omega)
  | succ f ih =>
    intro listed a inv hfree hr hy H
    refine ⟨fun h => by rw [h] at hr; exact absurd hr (by simp), fun j hj => ?_⟩
    have hjn : j < n := Nat.lt_of_not_le fun h => tail_waits1 hs hc hn inv _ i rfl h1i hin (mem_ready.1 hr).1 j h hj
    refine ⟨hjn, ?_⟩
    by_cases hji : j = i
    · subst hji
      exact hy.qOp hi H
    · obtain ⟨hjun, oj, hoj, hall⟩ := mem_ready.1 hj
      have hnot : ∀ e ∈ oj.after, Region.binds md e = true → e.on ≠ i := fun e he hb heq => by
        have h1 := hall e he hb
        rw [heq, getD_both (mem_ready.1 hr).1] at h1
        exact absurd h1 (by simp)
      have h2 := qOp_put hoj (hfree j oj hoj hji hjun hnot) (fun cs b => hsel i oi cs b hi) (fun cs b => hsel j oj cs b hoj) hy (H.2 j (ready_mono hj hji)).2
      refine qOp_mono (fun a' h3 => ih (listed.setIfInBounds j true) a' (inv.set hj hjn) (fun k ok hk hki hun hno => ?_) (ready_mono hr (Ne.symm hji)) h3.1 ?_) h2
      · refine hfree k ok hk hki ?_ hno
        by_cases hjk : j = k
        · subst hjk
          exact hjun
        · rwa [getD_set_ne true hjk] at hun
      · rw [Array.setIfInBounds_comm _ _ hji]
        exact h3.2
theorem headQ_lex1 {g : Nat} {Lq : Act → Prop} (hsel : Region.noSelect ops = true) (hs : sink1B md ops n = true) (hc : Region.chainB md ops n = true) (hn : n < ops.size) :
    ∀ (l : List Oper) (k : Nat) (listed : Array Bool) (a : Act), 1 ≤ k → (∀ j, j < l.length → l[j]? = ops[k + j]?) → k + l.length = n → HeadInv md ops n listed →
    Region.lexHead md ops g l.length k listed = true → wpQuiet P ops C Lq l a →
    headQ P md ops C n (fun listed' a' => Region.seqB md ops g n listed' = true ∧ Lq a') l.length listed a := by
  intro l
  induction l with
  | nil =>
    intro k listed a _ _ hk _ hB h
    obtain rfl : k = n := by simpa using hk
    exact ⟨by simpa [Region.lexHead] using hB, h⟩
  | cons o l ih =>
    intro k listed a hk1 hl hk inv hB h
    have h0 : ops[k]? = some o := by simpa using (hl 0 (by simp)).symm
    simp only [List.length_cons, Region.lexHead, Bool.and_eq_true] at hB
    simp only [List.length_cons] at hk
    have hr' : k ∈ Region.ready md ops listed := by simpa using hB.1.1
    have hst : qOp P ops C k (wpQuiet P ops C Lq l) a := by
      unfold qOp
      simp only [h0]
      exact h
    obtain ⟨v, hy, hK⟩ := yieldsIn_of_qOp h0 hst
    refine headQ_first1 h0 (Region.noSelect_spec hsel) hs hc hn hk1 (by omega) (fun listed' a' hL => seqB_ready hL.1) l.length listed a inv (Region.free_spec h0 hB.1.2) hr' hy ?_
    refine ih (k + 1) _ _ (by omega) (fun j hj => ?_) (by omega) (inv.set hr' (by omega)) hB.2 hK
    have := hl (j + 1) (by simp; omega)
    simpa [Nat.add_assoc, Nat.add_comm 1 j] using this
end
def lexTail1B (md : Region.Mode) (ops : Array Oper) (n : Nat) : Bool :=
  Region.noSelect ops && decide (1 ≤ n) && decide (n < ops.size) && sink1B md ops n && Region.chainB md ops n && Region.free md ops (Array.replicate ops.size false) 0 && (Region.ready md ops (Array.replicate ops.size false)).contains 0 &&
    Region.lexHead md ops (ops.size - n) (n - 1) 1 ((Array.replicate ops.size false).setIfInBounds 0 true)
theorem wp_region_grow_tail1 {P : Program} {id : Nat} {Q : Exit → Act → World → Prop} {a : Act} {w : World} {o : Oper} {l : List Oper} {v : Value} (m : Nat) (hm : P.follows .mixedOrders = true) (hB : lexTail1B .any (o :: l).toArray m = true)
    (hQ : ∀ c a w, Q (.panic c) (a.put o.dst v) w → Q (.panic c) a w) (hy : Yields P (o :: l).toArray o v a)
    (h : wpQuiet P (o :: l).toArray (fun w' => ∃ g, w' = grow w g) (fun a' => ∀ w', Below w.heap.size w w' → wpList P (o :: l).toArray Q ((o :: l).drop m) a' w') (((o :: l).take m).drop 1) (a.put o.dst v)) : (Code.region id (o :: l).toArray true).wp P Q a w := by
  simp only [lexTail1B, Bool.and_eq_true, decide_eq_true_eq] at hB
  obtain ⟨⟨⟨⟨⟨⟨⟨hsel, h1⟩, hn⟩, hs⟩, hc⟩, hfr⟩, hrd⟩, hlex⟩ := hB
  have hn' : m < l.length + 1 := by simpa using hn
  have htl : (((o :: l).take m).drop 1).length = m - 1 := by simp; omega
  have hdl : ((o :: l).drop m).length = (o :: l).toArray.size - m := by simp
  have h00 : (o :: l).toArray[0]? = some o := by simp
  have inv0 : HeadInv .any (o :: l).toArray m (Array.replicate (o :: l).toArray.size false) :=
    ⟨by simp, fun j oj _ hl => by rw [getD_replicate_false] at hl; exact absurd hl (by simp), fun t _ ht => getD_in (by simpa using ht) (getD_replicate_false _ _)⟩
  have inv1 := inv0.set (i := 0) (by simpa using hrd) (by omega)
  have H := headQ_lex1 (C := fun w' => ∃ g, w' = grow w g) (md := .any) (g := (o :: l).toArray.size - m) hsel hs hc hn (((o :: l).take m).drop 1) 1 _ (a.put o.dst v) (Nat.le_refl _) (fun j hj => by
    have hj' : j < m - 1 := by rw [htl] at hj; exact hj
    rw [List.getElem?_drop, List.getElem?_take_of_lt (by omega)]; simp) (by rw [htl]; omega) inv1 (by rw [htl]; exact hlex) h
  refine wp_region_any hm ?_
  have h3 := headQ_any (Q' := Q) (g := (o :: l).toArray.size - m) (fun listed a' w' hw' hL => by
    obtain ⟨g, rfl⟩ := hw'
    have := wpAny_of_seq (md := .any) (Q' := Q) ((o :: l).drop m) m listed a' (grow w g) (fun j => by simp [List.getElem?_drop]) (by rw [hdl]; exact hL.1) (hL.2 _ (grow_below w g))
    rwa [hdl] at this) _ _ _ w.drew ⟨w.drew, (grow_eq (Below.drew (Below.refl _ _))).symm⟩ H
  have h4 := wpAny_take (Q := Q) h00 hsel hfr hrd hQ hy h3
  rw [htl, show m - 1 + ((o :: l).toArray.size - m) + 1 = (o :: l).toArray.size by omega] at h4
  exact h4
end Go.Proofs.YtffkmgjmlahfpaaGreat
namespace Go.Proofs.YtffkmgjmlahfpaaGreat
open Go.RowKit
namespace S
def eqpt (p q : Pt) : Bool := decide (p.x = q.x) && decide (p.y = q.y) && decide (p.z = q.z)
end S
end Go.Proofs.YtffkmgjmlahfpaaGreat
namespace Go.Proofs.YtffkmgjmlahfpaaGreat
open Go.RowKit
theorem Cells.fore {w : World} {B : Nat} {A : Option Addr} {xs ys : List Value} (h : Cells w B A (xs ++ ys)) : Cells w B A xs := by
  rcases Nat.eq_zero_or_pos xs.length with h0 | h0
  · exact .inl (List.length_eq_zero_iff.1 h0)
  · obtain ⟨b, o, he, hb, hc⟩ := h.at_ (by simp; omega)
    exact .inr ⟨b, o, he, hb, fun j v hv => hc j v (by
      obtain ⟨hj, _⟩ := List.getElem?_eq_some_iff.1 hv
      rw [List.getElem?_append_left hj]; exact hv)⟩
theorem Cells.upto {α : Type} {w : World} {B : Nat} {A : Option Addr} {enc : α → List Value} {l : List α} (h : Cells w B A (l.flatMap enc)) (k : Nat) : Cells w B A ((l.take k).flatMap enc) := by
  rw [← List.take_append_drop k l, List.flatMap_append] at h
  exact h.fore
end Go.Proofs.YtffkmgjmlahfpaaGreat
