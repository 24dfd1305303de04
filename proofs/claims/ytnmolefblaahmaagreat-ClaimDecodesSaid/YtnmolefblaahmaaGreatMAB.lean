/- Plain facts on the bytes of claims: what is written is read; a changed byte is noticed. -/
import Derived.Test.YtnmolefblaahmaaGreatMAA
set_option linter.unusedVariables false
set_option linter.unusedSimpArgs false
namespace Go.Proofs.YtnmolefblaahmaaGreat
open Go.RowKit
structure Cl where
 areas : List (List Stp)
 first : Int
 second : Int
 square : Int
def S.noCl : Cl := ⟨[], 0, 0, 0⟩
def S.encS (l : List Stp) : List Nat := l.flatMap (fun s => S.be s.fro 4 ++ S.be s.val 6)
def S.encL (L : List (List Stp)) : List Nat := L.flatMap (fun l => l.length :: S.encS l)
def S.encB (c : Cl) : List Nat := [67, 83, c.areas.length] ++ (S.encL c.areas ++ (S.be c.first 2 ++ (S.be c.second 2 ++ S.be c.square 8)))
def S.enc (c : Cl) : List Nat := S.encB c ++ S.be (S.sumB 7 (S.encB c)) 4
def S.pSteps : Nat → List Nat → Option (List Stp × List Nat)
 | 0, l => some ([], l)
 | n + 1, l => if l.length < 10 then none else
  match S.pSteps n (l.drop 10) with
  | none => none
  | some (t, r) => some (⟨S.rdB true (l.take 4), S.rdB true ((l.drop 4).take 6)⟩ :: t, r)
def S.pLists : Nat → List Nat → Option (List (List Stp) × List Nat)
 | 0, l => some ([], l)
 | n + 1, [] => none
 | n + 1, x :: l => match S.pSteps x l with
  | none => none
  | some (s, r) => match S.pLists n r with
   | none => none
   | some (t, r') => some (s :: t, r')
def S.pClaim : List Nat → Option (Cl × Int)
 | [] => none
 | x :: t => match S.pLists x t with
  | none => none
  | some (L, r) => if r.length = 16 then some (⟨L, S.rdB true (r.take 2), S.rdB true ((r.drop 2).take 2), S.rdB true ((r.drop 4).take 8)⟩, S.rdB false (r.drop 12)) else none
def S.noneCl (c : Cl) : Bool := decide (c.first = -1) && decide (c.second = -1) && decide (c.square = -1)
def S.formed (c : Cl) : Bool := decide (c.areas.length ≤ 20) && c.areas.all S.steps && (S.noneCl c || (decide (0 ≤ c.first) && decide (c.first < c.second) && decide (c.second < 2000) && decide (0 ≤ c.square) && decide (c.square ≤ 1125899906842624)))
def S.dec (b : List Nat) : Cl × Int :=
 if 1048576 < b.length then (S.noCl, 4)
 else match b with
  | x :: y :: l => if x = 67 ∧ y = 83 then
   match S.pClaim l with
   | none => (S.noCl, 7)
   | some (c, s) => if s = S.sumB 7 (b.take (b.length - 4)) then (if S.formed c then (c, 0) else (S.noCl, 1)) else (S.noCl, 18)
   else (S.noCl, 7)
  | _ => (S.noCl, 7)
theorem steps_in {l : List Stp} (h : S.steps l = true) : l.length ≤ 200 ∧ ∀ s, s ∈ l → -1048576 ≤ s.fro ∧ s.fro ≤ 1048576 ∧ 0 ≤ s.val ∧ s.val ≤ 1099511627776 := by
 unfold S.steps at h
 rw [Bool.and_eq_true, List.all_eq_true] at h
 refine ⟨by simpa using h.1, fun s hs => ?_⟩
 obtain ⟨k, hk, rfl⟩ := List.getElem_of_mem hs
 have h2 := h.2 k (List.mem_range.2 hk)
 unfold S.stepAt S.place at h2
 rw [List.getElem?_eq_getElem hk] at h2
 simp only [Bool.and_eq_true, decide_eq_true_eq] at h2
 omega
theorem take_app {α : Type} (a b : List α) {n : Nat} (h : a.length = n) : (a ++ b).take n = a ∧ (a ++ b).drop n = b := by
 subst h
 exact ⟨List.take_left, List.drop_left⟩
theorem p_steps : ∀ (l : List Stp) (r : List Nat), (∀ s, s ∈ l → -1048576 ≤ s.fro ∧ s.fro ≤ 1048576 ∧ 0 ≤ s.val ∧ s.val ≤ 1099511627776) → S.pSteps l.length (S.encS l ++ r) = some (l, r) := by
 intro l
 induction l with
 | nil => intro r _; rfl
 | cons s t ih =>
  intro r h
  have hs := h s List.mem_cons_self
  have h1 := ih r (fun q hq => h q (List.mem_cons_of_mem _ hq))
  have e : S.encS (s :: t) ++ r = S.be s.fro 4 ++ (S.be s.val 6 ++ (S.encS t ++ r)) := by
   unfold S.encS
   rw [List.flatMap_cons]
   simp only [List.append_assoc]
  have l4 := be_len s.fro 4
  have l6 := be_len s.val 6
  have t1 := take_app (S.be s.fro 4) (S.be s.val 6 ++ (S.encS t ++ r)) l4
  have t2 := take_app (S.be s.val 6) (S.encS t ++ r) l6
  have d10 : (S.be s.fro 4 ++ (S.be s.val 6 ++ (S.encS t ++ r))).drop 10 = S.encS t ++ r := by
   rw [show (10 : Nat) = 4 + 6 from rfl, ← List.drop_drop, t1.2, t2.2]
  rw [e, List.length_cons]
  unfold S.pSteps
  rw [if_neg (by simp only [List.length_append]; omega), d10, h1, t1.1, t1.2, t2.1, rd_be (.inr (.inl rfl)) (by omega) (by omega), rd_be (.inr (.inr (.inl rfl))) (by omega) (by omega)]
theorem p_lists : ∀ (L : List (List Stp)) (r : List Nat), L.all S.steps = true → S.pLists L.length (S.encL L ++ r) = some (L, r) := by
 intro L
 induction L with
 | nil => intro r _; rfl
 | cons l t ih =>
  intro r h
  rw [List.all_cons, Bool.and_eq_true] at h
  have h1 := ih r h.2
  have h2 := steps_in h.1
  have e : S.encL (l :: t) ++ r = l.length :: (S.encS l ++ (S.encL t ++ r)) := by
   unfold S.encL
   rw [List.flatMap_cons]
   simp only [List.cons_append, List.append_assoc]
  rw [e, List.length_cons]
  unfold S.pLists
  rw [p_steps l _ h2.2]
  show (match S.pLists t.length (S.encL t ++ r) with | none => none | some (t, r') => some (l :: t, r')) = _
  rw [h1]
theorem formed_in {c : Cl} (h : S.formed c = true) : c.areas.length ≤ 20 ∧ c.areas.all S.steps = true ∧ (-1 ≤ c.first ∧ c.first < 2000) ∧ (-1 ≤ c.second ∧ c.second < 2000) ∧ (-1 ≤ c.square ∧ c.square ≤ 1125899906842624) := by
 unfold S.formed S.noneCl at h
 simp only [Bool.and_eq_true, Bool.or_eq_true, decide_eq_true_eq] at h
 obtain ⟨⟨h1, h2⟩, h3⟩ := h
 refine ⟨h1, h2, ?_⟩
 omega
theorem p_claim {c : Cl} (h : S.formed c = true) (s : Int) (h0 : 0 ≤ s) (h1 : s < 4294967296) : S.pClaim (c.areas.length :: (S.encL c.areas ++ (S.be c.first 2 ++ (S.be c.second 2 ++ (S.be c.square 8 ++ S.be s 4))))) = some (c, s) := by
 obtain ⟨hl, ha, hf, hs, hq⟩ := formed_in h
 unfold S.pClaim
 dsimp only
 rw [p_lists _ _ ha]
 have l1 := be_len c.first 2
 have l2 := be_len c.second 2
 have l3 := be_len c.square 8
 have l4 := be_len s 4
 have t1 := take_app (S.be c.first 2) (S.be c.second 2 ++ (S.be c.square 8 ++ S.be s 4)) l1
 have t2 := take_app (S.be c.second 2) (S.be c.square 8 ++ S.be s 4) l2
 have t3 := take_app (S.be c.square 8) (S.be s 4) l3
 have d4 : (S.be c.first 2 ++ (S.be c.second 2 ++ (S.be c.square 8 ++ S.be s 4))).drop 4 = S.be c.square 8 ++ S.be s 4 := by
  rw [show (4 : Nat) = 2 + 2 from rfl, ← List.drop_drop, t1.2, t2.2]
 have d12 : (S.be c.first 2 ++ (S.be c.second 2 ++ (S.be c.square 8 ++ S.be s 4))).drop 12 = S.be s 4 := by
  rw [show (12 : Nat) = 4 + 8 from rfl, ← List.drop_drop, d4, t3.2]
 show (if _ then _ else _) = _
 rw [if_pos (by simp only [List.length_append]; omega), t1.1, t1.2, t2.1, d4, t3.1, d12, rd_be0 h0 h1, rd_be (.inl rfl) (by omega) (by omega), rd_be (.inl rfl) (by omega) (by omega), rd_be (.inr (.inr (.inr rfl))) (by omega) (by omega)]
theorem enc_form (c : Cl) : S.enc c = 67 :: 83 :: (c.areas.length :: (S.encL c.areas ++ (S.be c.first 2 ++ (S.be c.second 2 ++ (S.be c.square 8 ++ S.be (S.sumB 7 (S.encB c)) 4))))) := by
 show [67, 83, c.areas.length] ++ _ ++ _ = _
 simp only [List.append_assoc, List.cons_append, List.nil_append]
theorem enc_len (c : Cl) : (S.enc c).length = (S.encB c).length + 4 := by unfold S.enc; rw [List.length_append, be_len]
theorem encS_len (l : List Stp) : (S.encS l).length = 10 * l.length := by
 induction l with
 | nil => rfl
 | cons s t ih =>
  unfold S.encS at ih ⊢
  rw [List.flatMap_cons, List.length_append, List.length_append, be_len, be_len, ih, List.length_cons]
  omega
theorem encL_len (L : List (List Stp)) (h : L.all S.steps = true) : (S.encL L).length ≤ 2001 * L.length := by
 induction L with
 | nil => exact Nat.le_refl _
 | cons l t ih =>
  rw [List.all_cons, Bool.and_eq_true] at h
  have h1 := ih h.2
  have h2 := (steps_in h.1).1
  have h3 := encS_len l
  unfold S.encL at h1 ⊢
  rw [List.flatMap_cons, List.length_append, List.length_cons, List.length_cons]
  omega
theorem encB_len {c : Cl} (h : S.formed c = true) : 15 ≤ (S.encB c).length ∧ (S.encB c).length ≤ 40035 := by
 obtain ⟨hl, ha, _⟩ := formed_in h
 have h1 := encL_len _ ha
 unfold S.encB
 simp only [List.length_append, List.length_cons, List.length_nil, be_len]
 omega
theorem dec_enc {c : Cl} (h : S.formed c = true) : S.dec (S.enc c) = (c, 0) := by
 have hl := encB_len h
 have hn := enc_len c
 have hs := sum_lt (S.encB c) 7 (by decide)
 have ht : (S.enc c).take ((S.enc c).length - 4) = S.encB c := by rw [hn, Nat.add_sub_cancel]; exact List.take_left
 have hp := p_claim h (S.sumB 7 (S.encB c)) (by omega) (by omega)
 unfold S.dec
 rw [if_neg (by omega), ht]
 rw [enc_form]
 simp only [and_self, if_true]
 rw [hp]
 simp only [if_true, h]
theorem pSteps_suf : ∀ (n : Nat) (l : List Nat) (t : List Stp) (r : List Nat), S.pSteps n l = some (t, r) → r <:+ l := by
 intro n
 induction n with
 | zero => intro l t r h; unfold S.pSteps at h; injection h with h; injection h with _ h; rw [h]; exact List.suffix_refl _
 | succ n ih =>
  intro l t r h
  unfold S.pSteps at h
  split at h
  ·cases h
  ·split at h
   ·cases h
   ·rename_i hq
    injection h with h
    injection h with _ h
    subst h
    exact (ih _ _ _ hq).trans (List.drop_suffix _ _)
theorem pLists_suf : ∀ (n : Nat) (l : List Nat) (t : List (List Stp)) (r : List Nat), S.pLists n l = some (t, r) → r <:+ l := by
 intro n
 induction n with
 | zero => intro l t r h; unfold S.pLists at h; injection h with h; injection h with _ h; rw [h]; exact List.suffix_refl _
 | succ n ih =>
  intro l t r h
  cases l with
  | nil => unfold S.pLists at h; cases h
  | cons x l =>
   unfold S.pLists at h
   split at h
   ·cases h
   ·rename_i hq
    split at h
    ·cases h
    ·rename_i hq2
     injection h with h
     injection h with _ h
     subst h
     exact ((ih _ _ _ hq2).trans (pSteps_suf _ _ _ _ hq)).trans (List.suffix_cons _ _)
theorem suf_drop {r l : List Nat} (h : r <:+ l) (k : Nat) (hk : k ≤ r.length) : r.drop (r.length - k) = l.drop (l.length - k) := by
 obtain ⟨p, rfl⟩ := h
 rw [List.length_append, show p.length + r.length - k = p.length + (r.length - k) by omega, ← List.drop_drop, List.drop_left]
theorem p_sum {l : List Nat} {c : Cl} {s : Int} (h : S.pClaim l = some (c, s)) : 16 ≤ l.length ∧ s = S.rdB false (l.drop (l.length - 4)) := by
 cases l with
 | nil => unfold S.pClaim at h; cases h
 | cons x t =>
  dsimp only [S.pClaim] at h
  split at h
  ·cases h
  ·rename_i hq
   have hs := (pLists_suf _ _ _ _ hq).trans (List.suffix_cons x _)
   split at h
   ·rename_i h16
    injection h with h
    injection h with _ h
    have := suf_drop hs 4 (by omega)
    rw [h16] at this
    exact ⟨by have := hs.length_le; omega, by rw [← h, ← this]⟩
   ·cases h
theorem dec_changed {c : Cl} (h : S.formed c = true) (i y : Nat) (hi : i < (S.enc c).length) (hy : y < 256) (hn : y ≠ (S.enc c)[i]) (hb : ∀ x, x ∈ S.enc c → x < 256) : (S.dec ((S.enc c).set i y)).2 ≠ 0 := by
 intro h0
 have hlen := enc_len c
 have hs := sum_lt (S.encB c) 7 (by decide)
 have hE : S.encB c = (S.enc c).take ((S.enc c).length - 4) := by rw [hlen, Nat.add_sub_cancel]; exact List.take_left.symm
 have hD : S.be (S.sumB 7 (S.encB c)) 4 = (S.enc c).drop ((S.enc c).length - 4) := by rw [hlen, Nat.add_sub_cancel]; exact List.drop_left.symm
 have hl15 := (encB_len h).1
 generalize hB : S.enc c = B at *
 have key : ∃ l s, (B.set i y).drop 2 = l ∧ 16 ≤ l.length ∧ s = S.rdB false (l.drop (l.length - 4)) ∧ s = (S.sumB 7 ((B.set i y).take ((B.set i y).length - 4)) : Int) := by
  unfold S.dec at h0
  split at h0
  ·cases h0
  ·split at h0
   ·rename_i x0 y0 l hq
    split at h0
    ·split at h0
     ·cases h0
     ·rename_i hp
      split at h0
      ·rename_i hsum
       have := p_sum hp
       exact ⟨l, _, by rw [hq]; rfl, this.1, this.2, by rw [← hsum]⟩
      ·cases h0
    ·cases h0
   ·cases h0
 obtain ⟨l, s, e1, e2, e3, e4⟩ := key
 have hll : l.length = B.length - 2 := by rw [← e1]; simp
 have e5 : l.drop (l.length - 4) = (B.set i y).drop (B.length - 4) := by
  rw [← e1, List.drop_drop]
  congr 1
  simp
  omega
 rw [List.length_set] at e4
 rw [e5] at e3
 have hrd : ∀ q : List Nat, q.length = 4 → S.rdB false q = S.valB q := fun q hq => by
  unfold S.rdB
  rw [if_neg (by omega)]
  simp
 have hdl : (B.drop (B.length - 4)).length = 4 := by rw [List.length_drop]; omega
 have hv : (S.valB (B.drop (B.length - 4)) : Int) = S.sumB 7 (B.take (B.length - 4)) := by
  rw [← hE, ← hD, val_be]
  omega
 have e6 : S.rdB false ((B.set i y).drop (B.length - 4)) = S.valB ((B.set i y).drop (B.length - 4)) := hrd _ (by rw [List.length_drop, List.length_set]; omega)
 by_cases hi4 : i < B.length - 4
 ·have e7 : (B.set i y).drop (B.length - 4) = B.drop (B.length - 4) := List.drop_set_of_lt (by omega)
  have e8 : (B.set i y).take (B.length - 4) = (B.take (B.length - 4)).set i y := List.take_set ..
  have hi' : i < (B.take (B.length - 4)).length := by rw [List.length_take]; omega
  have e9 : (B.take (B.length - 4))[i] = B[i] := List.getElem_take ..
  have := sum_set (B.take (B.length - 4)) i y 7 hi' (by decide) (by rw [e9]; exact hb _ (List.getElem_mem hi)) hy (by rw [e9]; exact hn)
  rw [e8] at e4
  rw [e7] at e6 e3
  omega
 ·have e8 : (B.set i y).take (B.length - 4) = B.take (B.length - 4) := List.take_set_of_le (by omega)
  have e7 : (B.set i y).drop (B.length - 4) = (B.drop (B.length - 4)).set (i - (B.length - 4)) y := by rw [List.drop_set, if_neg hi4]
  have hj : i - (B.length - 4) < (B.drop (B.length - 4)).length := by omega
  have e9 : (B.drop (B.length - 4))[i - (B.length - 4)] = B[i] := by
   rw [List.getElem_drop]
   congr 1
   omega
  have := val_set (B.drop (B.length - 4)) (i - (B.length - 4)) y hj (fun x hx => hb x (List.mem_of_mem_drop hx)) hy (by rw [e9]; exact hn)
  rw [e8] at e4
  rw [e7] at e6 e3
  omega
end Go.Proofs.YtnmolefblaahmaaGreat
