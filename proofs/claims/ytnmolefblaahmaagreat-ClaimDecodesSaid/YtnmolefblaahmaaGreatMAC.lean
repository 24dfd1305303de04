/- Plain facts: shifts and ors of bytes. Appends of cells to an own list; bytes. -/
import Derived.Laws.BitsAllLaws
import Derived.Test.YtnmolefblaahmaaGreatMAA
set_option linter.unusedVariables false
set_option linter.unusedSimpArgs false
namespace Go.Proofs.YtnmolefblaahmaaGreat
open Go.RowKit
theorem be_get (n : Int) : ∀ (k q : Nat), q < k → (S.be n k)[q]? = some ((n / 256 ^ (k - 1 - q) % 256).toNat) := by
 intro k
 induction k with
 | zero => intro q h; omega
 | succ k ih =>
  intro q h
  cases q with
  | zero => rfl
  | succ q =>
   show (S.be n k)[q]? = _
   rw [ih q (by omega), show k + 1 - 1 - (q + 1) = k - 1 - q by omega]
theorem be_take (n : Int) {k q : Nat} (h : q < k) : (S.be n k).take (q + 1) = (S.be n k).take q ++ [(n / 256 ^ (k - 1 - q) % 256).toNat] := by
 rw [List.take_add_one, be_get n k q h]
 rfl
theorem i64_or8 (x y : Int) (hx : x % 256 = 0) (h1 : -9223372036854775808 ≤ x) (h2 : x ≤ 9223372036854775807) (hy : 0 ≤ y ∧ y < 256) : bits .or .i64 x y = x + y := by
 show IntKind.i64.wrap ((BitVec.ofInt 64 x ||| BitVec.ofInt 64 y).toNat : Int) = _
 rw [BitVec.toNat_or, BitVec.toNat_ofInt, BitVec.toNat_ofInt]
 have ha : (x % ((2 ^ 64 : Nat) : Int)).toNat = 2 ^ 8 * (x % ((2 ^ 64 : Nat) : Int)).toNat.div 256 := by
  have : (x % ((2 ^ 64 : Nat) : Int)).toNat.div 256 = (x % ((2 ^ 64 : Nat) : Int)).toNat / 256 := rfl
  rw [this]
  omega
 have hb : (y % ((2 ^ 64 : Nat) : Int)).toNat = y.toNat := by omega
 rw [hb]
 generalize ht : (x % ((2 ^ 64 : Nat) : Int)).toNat = t at *
 rw [ha, ← Nat.two_pow_add_eq_or_of_lt (by omega), ← ha, IntKind.wrap_i64]
 omega
theorem shl_or (V x : Int) (hx : 0 ≤ x ∧ x < 256) : bits .or .i64 (IntKind.i64.wrap (IntKind.i64.wrap V * 256)) x = IntKind.i64.wrap (V * 256 + x) := by
 rw [i64_or8 _ _ (by rw [IntKind.wrap_i64, IntKind.wrap_i64]; omega) (by rw [IntKind.wrap_i64]; omega) (by rw [IntKind.wrap_i64]; omega) hx]
 rw [IntKind.wrap_i64, IntKind.wrap_i64, IntKind.wrap_i64]
 omega
def S.wrB (l : List Nat) : Int := IntKind.i64.wrap (S.valB l)
theorem wr_step {l : List Nat} {q : Nat} (hq : q < l.length) (hx : l[q] < 256) : bits .or .i64 (IntKind.i64.wrap (S.wrB (l.take q) * 256)) (l[q] : Int) = S.wrB (l.take (q + 1)) := by
 unfold S.wrB
 rw [shl_or _ _ (by omega), List.take_add_one, List.getElem?_eq_getElem hq]
 show _ = IntKind.i64.wrap (S.valB (l.take q ++ [l[q]]) : Int)
 rw [val_snoc]
 simp
theorem wr_add {l : List Nat} {q : Nat} (hq : q < l.length) (hx : l[q] < 256) : IntKind.i64.wrap (IntKind.i64.wrap (S.wrB (l.take q) * 256) + (l[q] : Int)) = S.wrB (l.take (q + 1)) := by
 unfold S.wrB
 rw [List.take_add_one, List.getElem?_eq_getElem hq]
 show _ = IntKind.i64.wrap (S.valB (l.take q ++ [l[q]]) : Int)
 rw [val_snoc, IntKind.wrap_i64, IntKind.wrap_i64, IntKind.wrap_i64, IntKind.wrap_i64]
 omega
theorem wr_rd {l : List Nat} (hl : ∀ x, x ∈ l → x < 256) (h8 : l.length ≤ 8) : S.rdB false l = S.wrB l := by
 have hv := val_lt l hl
 unfold S.rdB S.wrB
 split
 ·rfl
 ·have h7 : (256 : Nat) ^ l.length ≤ 256 ^ 7 := Nat.pow_le_pow_right (by decide) (by omega)
  simp only [Bool.false_and]
  rw [if_neg (by decide), IntWalk.i64_in _ (by omega)]
theorem wr_small {l : List Nat} (hl : ∀ x, x ∈ l → x < 256) (h7 : l.length ≤ 7) : S.wrB l = S.valB l ∧ S.valB l < 256 ^ l.length := by
 have hv := val_lt l hl
 have h7 : (256 : Nat) ^ l.length ≤ 256 ^ 7 := Nat.pow_le_pow_right (by decide) h7
 unfold S.wrB
 rw [IntWalk.i64_in _ (by omega)]
 exact ⟨rfl, hv⟩
theorem sumB_snoc (s : Nat) (l : List Nat) (x : Nat) : S.sumB s (l ++ [x]) = (31 * S.sumB s l + x + 1) % 4294967296 := by
 unfold S.sumB
 rw [List.foldl_append]
 rfl
theorem wpList_append_cells2 {P : Program} {w : World} {ops : Array Oper} {rest : List Oper} {o : Oper} {a : Act} {Q : Exit → Act → World → Prop} (hgd : o.guard = none) (s x : Operand) (t : TypeId)
 (ho : o.op = .call { callee := .builtin .append, args := #[s, x], argTypes := #[t, t] }) {E : TypeId} {z : Value} {size bytes : Nat} (hE : Elem P t E z size bytes)
 (base : Nat) (v : Value) (n : Nat) (xs : List Value) (hs : a.eval s = v) (hown : w.ownsRow base E size v n xs) (g : Nat) (m c : Nat) (news : List Value) (hx : a.eval x = .slice (some ⟨g, 0, none⟩) m c)
 (hl : news.length = m * size) (hc : ∀ j u, news[j]? = some u → w.cell? ⟨g, j, none⟩ = some u) (h1 : ∀ u ∈ news, u.oneCell' = true) (h63 : n + m ≤ maxLen) (hbytes : (n + m) * bytes ≤ 140737488355328) (hbase : base ≤ w.heap.size)
 (h : ∀ v' w', w'.ownsRow base E size v' (n + m) (xs ++ news) → Below base w w' → w.heap.size ≤ w'.heap.size → (∀ k, k < w.heap.size → v.ownBlock ≠ some k → w'.heap[k]? = w.heap[k]?) → (v'.ownBlock = v.ownBlock ∨ v'.ownBlock = some w.heap.size) → wpList P ops Q rest (a.put o.dst v') w') : wpList P ops Q (o :: rest) a w := by
 obtain ⟨i, hi, hz, hsz, hby⟩ := info_parts hE.info
 refine wpList_append_own_at w hgd s x t ho base E i z size bytes hE.slice hi hz hsz hby hE.cells hE.pos v n xs hs hown ⟨g, 0, none⟩ m c news hx hl (fun j u hu => ?_) h1 h63 hbytes hbase (fun v' w' h2 h3 _ h4 => h v' w' h2 ((Below.refl _ w).grown h3 hbase (fun k hk => (hown.lt k hk).1)) h3.size (fun k hk hne => h3.block k hk (fun e => hne e.symm)) h4)
 rw [show (⟨g, 0, none⟩ : Addr).add j = ⟨g, j, none⟩ by unfold Addr.add; split <;> simp_all]
 exact hc j u hu
theorem own_kept7 {w w' : World} {base E size : Nat} {v : Value} {n : Nat} {xs : List Value} (h : w.ownsRow base E size v n xs) (hb : ∀ k, v.ownBlock = some k → w'.heap[k]? = w.heap[k]?) : w'.ownsRow base E size v n xs :=
 (Row.kept (W := w) (g0 := v.ownBlock) ⟨h, fun k hk => .inl hk.symm⟩ hb).own
def Grows (w w' : World) (v v' : Value) : Prop := w.heap.size ≤ w'.heap.size ∧ (∀ k, k < w.heap.size → v.ownBlock ≠ some k → w'.heap[k]? = w.heap[k]?) ∧ (∀ k, v'.ownBlock = some k → v.ownBlock = some k ∨ w.heap.size ≤ k)
theorem Grows.refl (w : World) (v : Value) : Grows w w v v := ⟨Nat.le_refl _, fun _ _ _ => rfl, fun _ h => .inl h⟩
theorem Grows.trans {w w1 w2 : World} {v v1 v2 : Value} (h : Grows w w1 v v1) (h' : Grows w1 w2 v1 v2) : Grows w w2 v v2 :=
 ⟨Nat.le_trans h.1 h'.1, fun k hk hn => (h'.2.1 k (Nat.lt_of_lt_of_le hk h.1) (fun e => (h.2.2 k e).elim (fun e2 => hn e2) (fun e2 => by omega))).trans (h.2.1 k hk hn), fun k hk => by
   rcases h'.2.2 k hk with e | e
   ·exact h.2.2 k e
   ·exact .inr (Nat.le_trans h.1 e)⟩
theorem Grows.blk {w w' : World} {v v' : Value} {g : Nat} {t : TypeId} {cs : Array Value} (h : Grows w w' v v') (hb : Blk w g t cs) (hn : v.ownBlock ≠ some g) : Blk w' g t cs := (h.2.1 g hb.lt hn).trans hb
abbrev bC (x : Nat) : Value := .int .u8 x
theorem bC_get {l : List Nat} {k : Nat} (h : k < l.length) : (l.map bC)[k]? = some (.int .u8 (l[k] : Int)) := by simp [h]
theorem bC_one (l : List Nat) : ∀ u ∈ l.map bC, u.oneCell' = true := by
 intro u hu
 obtain ⟨x, _, rfl⟩ := List.mem_map.1 hu
 rfl
theorem elemB : Elem Tryz.prog 52 5 (.int .u8 0) 1 1 := ⟨Tryz.underlying52, by kernel_rfl, rfl, by decide⟩
end Go.Proofs.YtnmolefblaahmaaGreat
