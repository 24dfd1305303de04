/- Contracts: journal.Sum, the reference's Sum. Contracts: bytes.Equal, bytes.HasPrefix, slices.Clone of bytes; xor of bytes. Plain facts: the reference's size of a claim's bytes. -/
import Derived.Laws.BytesString
import Derived.Test.YtnmolefblaahmaaGreatMAC
import Derived.Test.YtnmolefblaahmaaGreatMAB
set_option linter.unusedVariables false
set_option linter.unusedSimpArgs false
namespace Go.Proofs.YtnmolefblaahmaaGreat
open Go.RowKit
set_option maxRecDepth 20000 in
set_option maxHeartbeats 1000000 in
theorem further_any (s : Nat) (l : List Nat) (A : Option Addr) (n c : Nat) (B : Nat) (w : World) (hs : s < 4294967296) (hn : l.length = n) (hm : n ≤ 9223372036854775807) (hl : ∀ x, x ∈ l → x < 256) (hx : Cells w B A (l.map bC)) :
 Calls Tryz.prog 85 #[.int .i64 s, .slice A n c] w fun e w' => e = .returned (.int .i64 (S.sumB s l)) ∧ w = w' := by
 have HN := Lib.hid hn
 have HL := Lib.hid hl
 clear hn hl
 go_enter Tryz.func85, Tryz.ntmps85
 go_wp2
 go_loop [0, 9] (fun v i => ∃ k : Nat, k ≤ n ∧ i = .int .i64 k ∧ v = .int .i64 (S.sumB s (l.take k))) (fun _ i => n - (intOf i).toNat)
 case atStart => exact ⟨0, Nat.zero_le _, rfl, rfl⟩
 case round =>
  obtain ⟨k, hk, rfl, rfl⟩ := hrel
  by_cases hlt : k < n
  ·have hkx : k < l.length := by have := HN.out; omega
   have hki : (k : Int) < n := by omega
   obtain ⟨b, o, rfl, _, hc⟩ := hx.at_ (by simp; omega)
   have hck := hc k _ (bC_get hkx)
   clear hc
   have h1 := HL.out _ (List.getElem_mem hkx)
   have h2 := sum_lt (l.take k) s hs
   have HT := Lib.hid (show S.sumB s (l.take (k + 1)) = (31 * S.sumB s (l.take k) + l[k] + 1) % 4294967296 by rw [List.take_add_one, List.getElem?_eq_getElem hkx]; exact sumB_snoc s (l.take k) l[k])
   generalize l[k] = x at *
   generalize S.sumB s (l.take k) = t at *
   have e1 : IntKind.i64.wrap (31 * (t : Int)) = 31 * (t : Int) := IntWalk.i64_in _ (by omega)
   have e2 : IntKind.i64.wrap (x : Int) = (x : Int) := IntWalk.i64_in _ (by omega)
   have e3 : IntKind.i64.wrap (31 * (t : Int) + (x : Int)) = 31 * (t : Int) + (x : Int) := IntWalk.i64_in _ (by omega)
   have e4 : IntKind.i64.wrap (31 * (t : Int) + (x : Int) + 1) = ((31 * t + x + 1 : Nat) : Int) := by rw [show 31 * (t : Int) + (x : Int) + 1 = ((31 * t + x + 1 : Nat) : Int) by omega]; exact IntWalk.i64_in _ (by omega)
   have e5 : ((31 * t + x + 1 : Nat) : Int).tmod 4294967296 = (((31 * t + x + 1) % 4294967296 : Nat) : Int) := by rw [Int.tmod_eq_emod_of_nonneg (by omega)]; omega
   have e6 : IntKind.i64.wrap (((31 * t + x + 1) % 4294967296 : Nat) : Int) = (((31 * t + x + 1) % 4294967296 : Nat) : Int) := IntWalk.i64_in _ (by omega)
   generalize (31 * t + x + 1) % 4294967296 = q at *
   generalize 31 * t + x + 1 = p at *
   go_wp2
   go_round
   case rel => exact ⟨k + 1, by omega, by go_num, by rw [HT.out]⟩
   case measure => simp [intOf]; omega
  ·have hkn : k = n := by omega
   have hki : ¬ ((k : Int) < n) := by omega
   subst hkn
   have ht : l.take k = l := List.take_of_length_le (by have := HN.out; omega)
   rw [ht]
   go_wp2
   go_ret
   exact ⟨rfl, rfl⟩
set_option maxRecDepth 20000 in
set_option maxHeartbeats 1000000 in
theorem rsum_any (l : List Nat) (A : Option Addr) (n c : Nat) (B : Nat) (w : World) (hn : l.length = n) (hm : n ≤ 9223372036854775807) (hl : ∀ x, x ∈ l → x < 256) (hx : Cells w B A (l.map bC)) :
 Calls Tryz.prog 57 #[.slice A n c] w fun e w' => e = .returned (.int .i64 (S.sumB 7 l)) ∧ w = w' := by
 have HN := Lib.hid hn
 have HL := Lib.hid hl
 clear hn hl
 go_enter Tryz.func57, Tryz.ntmps57
 go_wp2
 go_loop [3, 4] (fun v i => ∃ k : Nat, k ≤ n ∧ i = .int .i64 k ∧ v = .int .i64 (S.sumB 7 (l.take k))) (fun _ i => n - (intOf i).toNat)
 case atStart => exact ⟨0, Nat.zero_le _, rfl, rfl⟩
 case round =>
  obtain ⟨k, hk, rfl, rfl⟩ := hrel
  by_cases hlt : k < n
  ·have hkx : k < l.length := by have := HN.out; omega
   have hki : (k : Int) < n := by omega
   obtain ⟨b, o, rfl, _, hc⟩ := hx.at_ (by simp; omega)
   have hck := hc k _ (bC_get hkx)
   clear hc
   have h1 := HL.out _ (List.getElem_mem hkx)
   have h2 := sum_lt (l.take k) 7 (by decide)
   have HT := Lib.hid (show S.sumB 7 (l.take (k + 1)) = (31 * S.sumB 7 (l.take k) + l[k] + 1) % 4294967296 by rw [List.take_add_one, List.getElem?_eq_getElem hkx]; exact sumB_snoc 7 (l.take k) l[k])
   generalize l[k] = x at *
   generalize S.sumB 7 (l.take k) = t at *
   have e1 : IntKind.i64.wrap (31 * (t : Int)) = 31 * (t : Int) := IntWalk.i64_in _ (by omega)
   have e2 : IntKind.i64.wrap (x : Int) = (x : Int) := IntWalk.i64_in _ (by omega)
   have e3 : IntKind.i64.wrap (31 * (t : Int) + (x : Int)) = 31 * (t : Int) + (x : Int) := IntWalk.i64_in _ (by omega)
   have e4 : IntKind.i64.wrap (31 * (t : Int) + (x : Int) + 1) = ((31 * t + x + 1 : Nat) : Int) := by rw [show 31 * (t : Int) + (x : Int) + 1 = ((31 * t + x + 1 : Nat) : Int) by omega]; exact IntWalk.i64_in _ (by omega)
   have e5 : ((31 * t + x + 1 : Nat) : Int).tmod 4294967296 = (((31 * t + x + 1) % 4294967296 : Nat) : Int) := by rw [Int.tmod_eq_emod_of_nonneg (by omega)]; omega
   have e6 : IntKind.i64.wrap (((31 * t + x + 1) % 4294967296 : Nat) : Int) = (((31 * t + x + 1) % 4294967296 : Nat) : Int) := IntWalk.i64_in _ (by omega)
   generalize (31 * t + x + 1) % 4294967296 = q at *
   generalize 31 * t + x + 1 = p at *
   go_wp2
   go_round
   case rel => exact ⟨k + 1, by omega, by go_num, by rw [HT.out]⟩
   case measure => simp [intOf]; omega
  ·have hkn : k = n := by omega
   have hki : ¬ ((k : Int) < n) := by omega
   subst hkn
   have ht : l.take k = l := List.take_of_length_le (by have := HN.out; omega)
   rw [ht]
   go_wp2
   go_ret
   exact ⟨rfl, rfl⟩
set_option maxHeartbeats 400000 in
theorem sum_any (l : List Nat) (A : Option Addr) (n c : Nat) (B : Nat) (w : World) (hn : l.length = n) (hm : n ≤ 9223372036854775807) (hl : ∀ x, x ∈ l → x < 256) (hx : Cells w B A (l.map bC)) :
 Calls Tryz.prog 53 #[.slice A n c] w fun e w' => e = .returned (.int .i64 (S.sumB 7 l)) ∧ w = w' := by
 have H := Lib.hid (show Calls Tryz.prog 85 #[.int .i64 7, .slice A n c] w fun e w' => e = .returned (.int .i64 (S.sumB 7 l)) ∧ w = w' from further_any 7 l A n c B w (by decide) hn hm hl hx)
 clear hn hm hl hx
 go_enter Tryz.func53, Tryz.ntmps53
 go_wp2_with (go_at_call 85; (with_reducible refine H.out.mono ?_); rintro e w' ⟨rfl, rfl⟩)
 go_ret
 exact ⟨rfl, rfl⟩
def S.bsL (l : List Nat) : ByteArray := (l.map (fun (x : Nat) => (x : Int))).foldl (fun r n => r.push (UInt8.ofNat n.toNat)) ByteArray.empty
theorem bsL_data (l : List Nat) : ∀ s : ByteArray, ((l.map (fun (x : Nat) => (x : Int))).foldl (fun r n => r.push (UInt8.ofNat n.toNat)) s).data.toList = s.data.toList ++ l.map UInt8.ofNat := by
 induction l with
 | nil => intro s; simp
 | cons a t ih =>
  intro s
  rw [List.map_cons, List.foldl_cons, ih, List.map_cons]
  show (s.data.push (UInt8.ofNat (a : Int).toNat)).toList ++ _ = _
  rw [Array.toList_push, List.append_assoc, Int.toNat_natCast]
  rfl
theorem bsL_inj {l m : List Nat} (hl : ∀ x, x ∈ l → x < 256) (hm : ∀ x, x ∈ m → x < 256) : S.bsL l = S.bsL m ↔ l = m := by
 constructor
 ·intro h
  have h1 : (S.bsL l).data.toList = (S.bsL m).data.toList := by rw [h]
  unfold S.bsL at h1
  rw [bsL_data, bsL_data] at h1
  have h2 : l.map UInt8.ofNat = m.map UInt8.ofNat := List.append_cancel_left h1
  have h3 := congrArg (List.map UInt8.toNat) h2
  rw [List.map_map, List.map_map] at h3
  have e : ∀ q : List Nat, (∀ x, x ∈ q → x < 256) → q.map (UInt8.toNat ∘ UInt8.ofNat) = q := fun q hq => by
   conv => rhs; rw [← List.map_id q]
   refine List.map_congr_left (fun x hx => ?_)
   show (UInt8.ofNat x).toNat = x
   rw [UInt8.toNat_ofNat']
   exact Nat.mod_eq_of_lt (hq x hx)
  rw [e l hl, e m hm] at h3
  exact h3
 ·intro h
  rw [h]
theorem conv_bytes (l : List Nat) (A : Option Addr) (n c B : Nat) (w : World) (hn : l.length = n) (hx : Cells w B A (l.map bC)) : (convert 52 9 (.slice A n c)).run Tryz.prog w = .ok (.string (S.bsL l)) w := by
 rw [run_convert_bytes_string w _ _ 5 A n c Tryz.underlying52 Tryz.underlying5 Tryz.underlying9]
 cases A with
 | none =>
  have h0 : l = [] := by
   rcases hx with hx | ⟨b, o, hA, _⟩
   ·exact List.map_eq_nil_iff.1 hx
   ·cases hA
  subst h0
  simp [Conv.bytesToString, S.bsL, Sem.run_pure]
 | some a =>
  subst hn
  have hc : (loadCells a l.length).run Tryz.prog w = .ok ((l.map (fun (x : Nat) => (x : Int))).map (Value.int .u8)).toArray w := by
   have h1 := run_loadCells_list (P := Tryz.prog) (w := w) a (l.map bC) (fun j v hv => by
    rcases hx with hx | ⟨b, o, hA, _, hxx⟩
    ·rw [hx] at hv; cases hv
    ·injection hA with hA
     subst hA
     rw [show (⟨b, o, none⟩ : Addr).add j = ⟨b, o + j, none⟩ by unfold Addr.add; split <;> simp_all]
     exact hxx j v hv)
   rw [List.length_map] at h1
   rw [List.map_map]
   exact h1
  exact run_bytesToString w a l.length c _ hc
theorem ba_list {s t : ByteArray} : s.toList = t.toList ↔ s = t := by
 rw [Go.ByteArray.toList_eq, Go.ByteArray.toList_eq]
 constructor
 ·intro h
  cases s
  cases t
  simpa [Array.toList_inj] using h
 ·intro h
  rw [h]
set_option maxHeartbeats 1000000 in
theorem equalB_any (l m : List Nat) (A A' : Option Addr) (n n' c c' B : Nat) (w : World) (hn : l.length = n) (hm : m.length = n') (hl : ∀ x, x ∈ l → x < 256) (hl' : ∀ x, x ∈ m → x < 256) (hx : Cells w B A (l.map bC)) (hy : Cells w B A' (m.map bC)) :
 Calls Tryz.prog 22 #[.slice A n c, .slice A' n' c'] w fun e w' => e = .returned (.bool (decide (l = m))) ∧ w = w' := by
 have q6 := conv_bytes l A n c B w hn hx
 have q8 := conv_bytes m A' n' c' B w hm hy
 have HD := Lib.hid (show decide (l = m) = decide (S.bsL l = S.bsL m) from by rw [Bool.eq_iff_iff, decide_eq_true_eq, decide_eq_true_eq, bsL_inj hl hl'])
 clear hn hm hl hl' hx hy
 generalize S.bsL l = s at *
 generalize S.bsL m = t at *
 go_enter Tryz.func22, Tryz.ntmps22
 go_wp2
 go_ret
 exact ⟨ret_b (by rw [HD.out, Bool.eq_iff_iff]; simp [ba_list]), rfl⟩
set_option maxHeartbeats 1000000 in
theorem prefix_yes (l m : List Nat) (A A' : Option Addr) (n n' c c' B : Nat) (w : World) (hn : l.length = n) (hm : m.length = n') (h0 : 0 < n') (hnn : n' ≤ n) (hnc : n ≤ c) (hmx : n ≤ 9223372036854775807) (hl : ∀ x, x ∈ l → x < 256) (hl' : ∀ x, x ∈ m → x < 256) (hx : Cells w B A (l.map bC)) (hy : Cells w B A' (m.map bC)) (ht : l.take n' = m) :
 Calls Tryz.prog 37 #[.slice A n c, .slice A' n' c'] w fun e w' => e = .returned (.bool true) ∧ w = w' := by
 obtain ⟨b, o, rfl, _, _⟩ := hx.at_ (by simp; omega)
 have hx2 : Cells w B (some ⟨b, o, none⟩) ((l.take n').map bC) := by
  rcases hx with hx | ⟨b', o', hA, hb', hxx⟩
  ·left
   rw [List.map_take, hx, List.take_nil]
  ·exact .inr ⟨b', o', hA, hb', fun j v hv => hxx j v (by
    rw [List.map_take, List.getElem?_take] at hv
    split at hv
    ·exact hv
    ·cases hv)⟩
 have HE := Lib.hid (equalB_any (l.take n') m (some ⟨b, o, none⟩) A' n' n' c c' B w (by rw [List.length_take]; omega) hm (fun x hx => hl x (List.mem_of_mem_take hx)) hl' hx2 hy)
 rw [decide_eq_true ht] at HE
 have h1 : (n' : Int) ≤ n := by omega
 have h2 : (n' : Int) ≤ c := by omega
 clear hx hx2 hy ht hn hm hl hl'
 go_enter Tryz.func37, Tryz.ntmps37
 go_wp2_with (go_at_call 22; (with_reducible refine HE.out.mono ?_); rintro e w' ⟨rfl, rfl⟩)
 go_ret
 exact ⟨rfl, rfl⟩
set_option maxRecDepth 20000 in
set_option maxHeartbeats 1000000 in
theorem cloneB_any (l : List Nat) (g n c : Nat) (w : World) (hn : l.length = n) (h0 : 0 < n) (hm : n ≤ 1000000) (hx : ∀ j u, (l.map bC)[j]? = some u → w.cell? ⟨g, j, none⟩ = some u) :
 Calls Tryz.prog 32 #[.slice (some ⟨g, 0, none⟩) n c] w fun e w' => ∃ (A' : Option Addr) (c' : Nat), e = .returned (.slice A' n c') ∧ w'.ownsRow w.heap.size 5 1 (.slice A' n c') n (l.map bC) ∧ Below w.heap.size w w' := by
 have hO := World.ownsRow_lit w (e := 5) (size := 1) (base := w.heap.size) #[] 0 (Nat.le_refl _) (by unfold maxLen; omega) rfl
 have HX := Lib.hid (show ∀ j u, (l.map bC)[j]? = some u → (w.alloc (.cells #[] 5)).cell? ⟨g, j, none⟩ = some u from fun j u hu => by
  have h1 := hx j u hu
  refine ((ba_alloc (Below.refl w.heap.size w) (.cells #[] 5)).cell (p := ⟨g, j, none⟩) ?_).trans h1
  unfold World.cell? at h1
  split at h1
  ·rename_i hh
   exact (Array.getElem?_eq_some_iff.1 hh).1
  ·cases h1)
 have HO := Lib.hid hO
 have HN := Lib.hid hn
 have hW : Below w.heap.size w (w.alloc (.cells #[] 5)) := ba_alloc (Below.refl _ _) _
 have hs := hW.size
 have q4 : (binOp BinOp.eql 52 (.slice (some ⟨g, 0, none⟩) n c) (.slice none 0 0)).run Tryz.prog w = .ok (.bool false) w := by kernel_rfl
 clear hx hn hO
 go_enter Tryz.func32, Tryz.ntmps32
 go_wp2_with (at_builtin; refine wpList_append_cells2 rfl (.tmp 5) (.tmp 6) _ rfl elemB w.heap.size (.slice (some ⟨w.heap.size, 0, none⟩) 0 0) 0 _ rfl HO.out g n c (l.map bC) rfl (by rw [List.length_map, HN.out]; omega) HX.out (bC_one l) (by unfold maxLen; omega) (by omega) (by simp) ?_; intro v2 wE hOE hbE hz1 hz2 hz3; obtain ⟨A2, c2, hv2, _, _, hxx⟩ := own_form hOE (by unfold maxLen; omega); clear hxx; rw [Nat.zero_add] at hv2; subst hv2)
 go_ret
 exact ⟨A2, c2, rfl, by simpa using hOE, hW.trans hbE⟩
theorem xor8 (x y : Nat) (hx : x < 256) (hy : y < 256) : ∃ z : Nat, bits .xor .u8 x y = (z : Int) ∧ z < 256 ∧ (y ≠ 0 → z ≠ x) := by
 refine ⟨x ^^^ y, ?_, Nat.xor_lt_two_pow (n := 8) hx hy, fun h e => h ?_⟩
 ·show IntKind.u8.wrap ((BitVec.ofInt 8 x ^^^ BitVec.ofInt 8 y).toNat : Int) = _
  rw [BitVec.toNat_xor, BitVec.toNat_ofInt, BitVec.toNat_ofInt]
  have h1 : ((x : Int) % ((2 ^ 8 : Nat) : Int)).toNat = x := by omega
  have h2 : ((y : Int) % ((2 ^ 8 : Nat) : Int)).toNat = y := by omega
  rw [h1, h2]
  have h3 : x ^^^ y < 256 := Nat.xor_lt_two_pow (n := 8) hx hy
  rw [IntKind.wrap_u8]
  omega
 ·have h1 : x ^^^ (x ^^^ y) = x ^^^ x := by rw [e]
  rw [← Nat.xor_assoc, Nat.xor_self, Nat.zero_xor] at h1
  exact h1
def S.sizeAt (b : List Nat) : Nat → Nat → Option Nat
 | 0, k => some k
 | n + 1, k => match b[k]? with
  | none => none
  | some x => S.sizeAt b n (k + 1 + 10 * x)
theorem pSteps_len : ∀ (n : Nat) (l : List Nat), (10 * n ≤ l.length → ∃ t, S.pSteps n l = some (t, l.drop (10 * n)) ∧ t.length = n) ∧ (l.length < 10 * n → S.pSteps n l = none) := by
 intro n
 induction n with
 | zero => intro l; exact ⟨fun _ => ⟨[], rfl, rfl⟩, fun h => absurd h (by omega)⟩
 | succ n ih =>
  intro l
  unfold S.pSteps
  by_cases h10 : l.length < 10
  ·rw [if_pos h10]
   exact ⟨fun h => absurd h (by omega), fun _ => rfl⟩
  ·rw [if_neg h10]
   obtain ⟨h1, h2⟩ := ih (l.drop 10)
   rw [List.length_drop] at h1 h2
   constructor
   ·intro h
    obtain ⟨t, h3, h4⟩ := h1 (by omega)
    rw [h3]
    refine ⟨⟨S.rdB true (l.take 4), S.rdB true ((l.drop 4).take 6)⟩ :: t, ?_, by rw [List.length_cons, h4]⟩
    dsimp only
    rw [List.drop_drop, show 10 + 10 * n = 10 * (n + 1) by omega]
   ·intro h
    rw [h2 (by omega)]
theorem size_parse (b : List Nat) : ∀ (n k : Nat), k ≤ b.length →
 (∀ t r, S.pLists n (b.drop k) = some (t, r) → S.sizeAt b n k = some (b.length - r.length) ∧ t.length = n) ∧ (∀ m, S.sizeAt b n k = some m → m ≤ b.length → ∃ t r, S.pLists n (b.drop k) = some (t, r)) ∧ (∀ m, S.sizeAt b n k = some m → k ≤ m) := by
 intro n
 induction n with
 | zero =>
  intro k hk
  refine ⟨fun t r h => ?_, fun m h _ => ⟨[], b.drop k, rfl⟩, fun m h => ?_⟩
  ·unfold S.pLists at h
   injection h with h
   injection h with h1 h2
   subst h1
   subst h2
   unfold S.sizeAt
   rw [List.length_drop]
   exact ⟨by congr 1; omega, rfl⟩
  ·unfold S.sizeAt at h
   injection h with h
   omega
 | succ n ih =>
  intro k hk
  by_cases hkb : k < b.length
  ·have e : b.drop k = b[k] :: b.drop (k + 1) := List.drop_eq_getElem_cons hkb
   rw [e]
   unfold S.pLists S.sizeAt
   rw [List.getElem?_eq_getElem hkb]
   dsimp only
   obtain ⟨s1, s2⟩ := pSteps_len b[k] (b.drop (k + 1))
   rw [List.length_drop] at s1 s2
   have hge : ∀ (n q : Nat) m, S.sizeAt b n q = some m → q ≤ m := by
    intro n
    induction n with
    | zero => intro q m h; unfold S.sizeAt at h; injection h with h; omega
    | succ n ih2 =>
     intro q m h
     unfold S.sizeAt at h
     split at h
     ·cases h
     ·have := ih2 _ _ h
      omega
   by_cases hfit : 10 * b[k] ≤ b.length - (k + 1)
   ·obtain ⟨t, h3, h4⟩ := s1 hfit
    rw [h3]
    dsimp only
    rw [List.drop_drop]
    obtain ⟨i1, i2, i3⟩ := ih (k + 1 + 10 * b[k]) (by omega)
    refine ⟨fun t r h => ?_, fun m h hm => ?_, fun m h => (by have := i3 m h; omega)⟩
    ·split at h
     ·cases h
     ·rename_i hq
      injection h with h
      injection h with h5 h6
      subst h6
      obtain ⟨j1, j2⟩ := i1 _ _ hq
      exact ⟨j1, by rw [← h5, List.length_cons, j2]⟩
    ·obtain ⟨t2, r2, h5⟩ := i2 m h hm
     rw [h5]
     exact ⟨_, _, rfl⟩
   ·rw [s2 (by omega)]
    refine ⟨fun t r h => (by cases h), fun m h hm => ?_, fun m h => (by have := hge _ _ _ h; omega)⟩
    have := hge _ _ _ h
    omega
  ·have e : b.drop k = [] := List.drop_eq_nil_of_le (by omega)
   rw [e]
   unfold S.pLists S.sizeAt
   rw [List.getElem?_eq_none (by omega)]
   exact ⟨fun t r h => (by cases h), fun m h => (by cases h), fun m h => (by cases h)⟩
theorem size_claim (b : List Nat) (x y z : Nat) (l : List Nat) (hb : b = x :: y :: z :: l) :
 ((∃ m, S.sizeAt b z 3 = some m ∧ m + 16 = b.length) ↔ ∃ c s, S.pClaim (z :: l) = some (c, s)) := by
 have hd : b.drop 3 = l := by rw [hb]; rfl
 have h3 : 3 ≤ b.length := by rw [hb]; simp
 obtain ⟨i1, i2, _⟩ := size_parse b z 3 h3
 rw [hd] at i1 i2
 constructor
 ·rintro ⟨m, h1, h2⟩
  obtain ⟨t, r, h4⟩ := i2 m h1 (by omega)
  obtain ⟨h5, _⟩ := i1 t r h4
  rw [h1] at h5
  injection h5 with h5
  have hr := (pLists_suf _ _ _ _ h4).length_le
  have hl : b.length = l.length + 3 := by rw [hb]; rfl
  have e : S.pClaim (z :: l) = (if r.length = 16 then some (⟨t, S.rdB true (r.take 2), S.rdB true ((r.drop 2).take 2), S.rdB true ((r.drop 4).take 8)⟩, S.rdB false (r.drop 12)) else none) := by
   dsimp only [S.pClaim]
   rw [h4]
  rw [e, if_pos (by omega)]
  exact ⟨_, _, rfl⟩
 ·rintro ⟨c, s, h⟩
  dsimp only [S.pClaim] at h
  split at h
  ·cases h
  ·rename_i t r hq
   split at h
   ·rename_i h16
    obtain ⟨h5, _⟩ := i1 _ _ hq
    have hr := (pLists_suf _ _ _ _ hq).length_le
    have hl : b.length = l.length + 3 := by rw [hb]; rfl
    exact ⟨_, h5, by omega⟩
   ·cases h
end Go.Proofs.YtnmolefblaahmaaGreat
