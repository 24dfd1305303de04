/- Plain: the reference's supply: places one after the other, and the short steps. Contract: supply.Anchored. -/
import Derived.Test.YtffkmgjmlahfpaaGreatYAP
set_option linter.unusedVariables false
set_option linter.unusedSimpArgs false
namespace Go.Proofs.YtffkmgjmlahfpaaGreat
open Go.RowKit
def S.sh (f : Int → Int) : Int → List Int → List Stp
  | _, [] => []
  | v, p :: t => if f p = v then S.sh f v t else ⟨p, f p⟩ :: S.sh f (f p) t
theorem sh_idem (f : Int → Int) : ∀ (P : List Int) (v : Int) (out : List Stp), ((S.sh f v P).foldl (fun x s => (s.val, if s.val = x.1 then x.2 else x.2 ++ [s])) (v, out)).2 = out ++ S.sh f v P := by
  intro P
  induction P with
  | nil => intro v out; simp [S.sh]
  | cons p t ih =>
    intro v out
    rw [S.sh]
    by_cases h : f p = v
    · rw [if_pos h]
      exact ih v out
    · rw [if_neg h, List.foldl_cons]
      show (List.foldl _ (f p, if f p = v then out else out ++ [⟨p, f p⟩]) _).2 = _
      rw [if_neg h, ih]
      simp
theorem sh_ofF (l : List SCh) : ∀ (P : List Int) (v : Int) (out : List Stp), (P.foldl (fun x p => if S.valueAt p l = x.1 then x else (S.valueAt p l, x.2 ++ [⟨p, S.valueAt p l⟩])) (v, out)).2 = out ++ S.sh (fun p => S.valueAt p l) v P := by
  intro P
  induction P with
  | nil => intro v out; simp [S.sh]
  | cons p t ih =>
    intro v out
    rw [List.foldl_cons, S.sh]
    by_cases h : S.valueAt p l = v
    · show (List.foldl _ (if S.valueAt p l = v then (v, out) else _) t).2 = _
      rw [if_pos h, if_pos h]
      exact ih v out
    · show (List.foldl _ (if S.valueAt p l = v then (v, out) else _) t).2 = _
      rw [if_neg h, if_neg h, ih]
      simp
theorem ofL_sh (l : List SCh) : S.ofL l = S.sh (fun p => S.valueAt p l) 0 (S.places l) := by
  have := sh_ofF l (S.places l) 0 []
  unfold S.ofL S.ofF
  rw [this]
  rfl
theorem short_ofL (l : List SCh) : S.shortSt (S.ofL l) = S.sh (fun p => S.valueAt p l) 0 (S.places l) := by
  rw [ofL_sh]
  have := sh_idem (fun p => S.valueAt p l) (S.places l) 0 []
  unfold S.shortSt S.shortStF
  rw [this]
  rfl
theorem valueAt_congr {l : List SCh} {a b : Int} (h : ∀ c, c ∈ l → S.atPl a c = S.atPl b c) : S.valueAt a l = S.valueAt b l := by
  unfold S.valueAt
  suffices hs : ∀ (l : List SCh) (n : Int), (∀ c, c ∈ l → S.atPl a c = S.atPl b c) → l.foldl (fun n r => if S.atPl a r then n + r.area else n) n = l.foldl (fun n r => if S.atPl b r then n + r.area else n) n from hs l 0 h
  intro l
  induction l with
  | nil => intro n _; rfl
  | cons c t ih =>
    intro n h
    rw [List.foldl_cons, List.foldl_cons, h c (by simp)]
    exact ih _ (fun c hc => h c (by simp [hc]))
theorem valueAt_const (l : List SCh) : ∀ a b, a ≤ b → (∀ q, q ∈ S.ends2 l → ¬ (a < q ∧ q ≤ b)) → S.valueAt a l = S.valueAt b l := fun a b hab h => valueAt_congr fun c hc => by
  have h1 := h c.lo (by unfold S.ends2; rw [List.mem_flatMap]; exact ⟨c, hc, by simp⟩)
  have h2 := h c.hi (by unfold S.ends2; rw [List.mem_flatMap]; exact ⟨c, hc, by simp⟩)
  unfold S.atPl
  rw [show (decide (c.lo ≤ a)) = decide (c.lo ≤ b) from decide_eq_decide.2 (by omega), show (decide (a < c.hi)) = decide (b < c.hi) from decide_eq_decide.2 (by omega)]
theorem valueAt_none {l : List SCh} {a : Int} (h : ∀ c, c ∈ l → a < c.lo) : S.valueAt a l = 0 := by
  unfold S.valueAt
  induction l with
  | nil => rfl
  | cons c t ih =>
    have h1 := h c (by simp)
    rw [List.foldl_cons, if_neg (by unfold S.atPl; simp; omega)]
    exact ih (fun c hc => h c (by simp [hc]))
theorem valueAt_kept (z : Bx) (p : Int) (rs : List Rod) (cs : List SCh) : S.valueAt p (cs.filter (S.supAt z p rs)) = S.valueAt p (cs.filter (S.sup rs z)) := by
  unfold S.valueAt
  suffices hs : ∀ (cs : List SCh) (n : Int), (cs.filter (S.supAt z p rs)).foldl (fun n r => if S.atPl p r then n + r.area else n) n = (cs.filter (S.sup rs z)).foldl (fun n r => if S.atPl p r then n + r.area else n) n from hs cs 0
  intro cs
  induction cs with
  | nil => intro n; rfl
  | cons c t ih =>
    intro n
    rw [List.filter_cons, List.filter_cons]
    by_cases h1 : S.atPl p c = true
    · have : S.supAt z p rs c = S.sup rs z c := by unfold S.supAt; rw [h1]; rfl
      rw [this]
      split
      · rw [List.foldl_cons, List.foldl_cons]
        exact ih _
      · exact ih _
    · have h2 : S.supAt z p rs c = false := by unfold S.supAt; simp [h1]
      rw [h2, if_neg (by simp)]
      split
      · rw [List.foldl_cons, if_neg h1]
        exact ih _
      · exact ih _
theorem supplyAt_sup (x : Dt) (rs : List Rod) (C : List (List Int)) (z : Bx) (p : Int) : S.supplyAt x rs C z p = S.valueAt p ((C.map (S.schOf x rs)).filter (S.sup rs z)) := valueAt_kept z p rs _
theorem ends2_mem {l : List SCh} {e : Int} : e ∈ S.ends2 l ↔ ∃ c, c ∈ l ∧ (e = c.lo ∨ e = c.hi) := by
  unfold S.ends2
  rw [List.mem_flatMap]
  simp
set_option maxHeartbeats 2000000 in
theorem Anch_any (x : Dt) (C : List (List Int)) (n : Nat) (k : Nat) (w : World) (hC : C.length ≤ 2000) (hk : k < C.length)
    (hCH : ∀ W, Below w.heap.size w W → Calls Tryz.prog 93 #[dtV x] W (GivesSup x C n W)) :
    Calls Tryz.prog 40 #[dtV x, .int .i64 k] w fun e w' => ∃ (rs : List Rod) (c : SCh), e = .returned (.tuple #[.agg #[.int .i64 (if c.is then c.lo else 0), .int .i64 (if c.is then c.hi else 0)], .int .i64 (if c.is then 0 else 12)]) ∧ rs.length = n ∧ (∀ (i : Nat) (hi : i < rs.length), RodOk x i rs[i]) ∧ SchOk x rs C[k] c ∧ Below w.heap.size w w' := by
  have HCH := Lib.hid hCH
  clear hCH
  unfold dtV at HCH
  unfold dtV
  have hDB := (Blk.new w 34 #[.string x.m.name, .slice x.mA x.mn x.mc, .slice x.hA x.hn x.hc, .int .i64 x.m.cover, .int .i64 x.m.aggr, .int .i64 x.m.poker, .slice x.bA x.bn x.bc, .slice x.rA x.rn x.rc, .slice x.jA x.jn x.jc, .slice x.dA x.dn x.dc, .int .i64 x.rule.num, .int .i64 x.rule.den, .int .i64 x.rule.pnum, .int .i64 x.rule.pden, .int .i64 x.rule.bnum, .int .i64 x.rule.bden, .int .i64 x.rule.lnum, .int .i64 x.rule.lden, .int .i64 x.rule.least]).alloc (.cells #[.int .i64 0, .int .i64 0] 45)
  have hSB := Blk.newN (W := w.alloc (.cells #[.string x.m.name, .slice x.mA x.mn x.mc, .slice x.hA x.hn x.hc, .int .i64 x.m.cover, .int .i64 x.m.aggr, .int .i64 x.m.poker, .slice x.bA x.bn x.bc, .slice x.rA x.rn x.rc, .slice x.jA x.jn x.jc, .slice x.dA x.dn x.dc, .int .i64 x.rule.num, .int .i64 x.rule.den, .int .i64 x.rule.pnum, .int .i64 x.rule.pden, .int .i64 x.rule.bnum, .int .i64 x.rule.bden, .int .i64 x.rule.lnum, .int .i64 x.rule.lden, .int .i64 x.rule.least] 34)) (n := w.heap.size + 1) (by simp) 45 #[.int .i64 0, .int .i64 0]
  have hW1 : Below w.heap.size w ((w.alloc (.cells #[.string x.m.name, .slice x.mA x.mn x.mc, .slice x.hA x.hn x.hc, .int .i64 x.m.cover, .int .i64 x.m.aggr, .int .i64 x.m.poker, .slice x.bA x.bn x.bc, .slice x.rA x.rn x.rc, .slice x.jA x.jn x.jc, .slice x.dA x.dn x.dc, .int .i64 x.rule.num, .int .i64 x.rule.den, .int .i64 x.rule.pnum, .int .i64 x.rule.pden, .int .i64 x.rule.bnum, .int .i64 x.rule.bden, .int .i64 x.rule.lnum, .int .i64 x.rule.lden, .int .i64 x.rule.least] 34)).alloc (.cells #[.int .i64 0, .int .i64 0] 45)) := ba_alloc (ba_alloc (Below.refl _ _) _) _
  go_enter Tryz.func40, Tryz.ntmps40
  go_upto_region 1 with fail
  generalize ((w.alloc (.cells #[.string x.m.name, .slice x.mA x.mn x.mc, .slice x.hA x.hn x.hc, .int .i64 x.m.cover, .int .i64 x.m.aggr, .int .i64 x.m.poker, .slice x.bA x.bn x.bc, .slice x.rA x.rn x.rc, .slice x.jA x.jn x.jc, .slice x.dA x.dn x.dc, .int .i64 x.rule.num, .int .i64 x.rule.den, .int .i64 x.rule.pnum, .int .i64 x.rule.pden, .int .i64 x.rule.bnum, .int .i64 x.rule.bden, .int .i64 x.rule.lnum, .int .i64 x.rule.lden, .int .i64 x.rule.least] 34)).alloc (.cells #[.int .i64 0, .int .i64 0] 45)) = W1 at *
  have HDB := Lib.hid hDB
  clear hDB
  go_upto_region 2 with (first
    | ((with_reducible refine at_load 34 2 ?_); refine wpList_load_mid rfl 34 (.tmp 2) rfl _ _ rfl _ _ (HDB.out.via belr).range Tryz.underlying34 rfl (by kernel_rfl) ?_)
    | (go_at_call 93; (with_reducible refine (HCH.out _ belr).mono ?_); rintro e w2 ⟨A1, c1, rs, A2, c2, cs, rfl, hrl, hok, hRA, hOW, hcl, hsch, hcc, hbw2⟩; have HRL := Lib.hid hrl; have HOK := Lib.hid hok; have HOW := Lib.hid hOW; have HCL := Lib.hid hcl; have HSC := Lib.hid hsch; clear hrl hok hRA hOW hcl hsch hcc))
  have hkx : k < cs.length := by rw [HCL.out]; exact hk
  have hCS := (own_cells HOW.out (by have := HCL.out; unfold maxLen; omega)).1
  obtain ⟨b2, o2, hA2, hbb2, hxx⟩ := hCS.at_ (by rw [flat_len schC 5 schC_len]; omega)
  clear hxx
  subst hA2
  have c1' := hCS.rowj schC_len hkx 1 rfl
  have c2' := hCS.rowj schC_len hkx 2 rfl
  have c3' := hCS.rowj schC_len hkx 3 rfl
  have HK := Lib.hid (HSC.out k hkx hk)
  have hki : (k : Int) < cs.length := by omega
  have hk0 : ¬ ((k : Int) < 0) := by omega
  have hk1 : ¬ ((cs.length : Int) ≤ k) := by omega
  have hS2 := hSB.via hbw2
  have s0 := hS2.cell 0
  have s1 := hS2.cell 1
  have sf0 := hS2.frozen 0
  have sf1 := hS2.frozen 1
  have sl := hS2.lt
  simp only [List.getElem?_toArray, List.getElem?_cons_zero, List.getElem?_cons_succ] at s0 s1
  have hw2 : Below w.heap.size w w2 := ba_via hbw2 hW1
  have hs2 := hbw2.size
  have hs1 := hW1.size
  clear hCS HOW HSC HCH HDB hSB
  generalize cs[k] = c at *
  cases his : c.is
  · rw [his] at c3'
    go_wp2
    exact bodyPost_ret (v := .tuple #[.agg #[.int .i64 0, .int .i64 0], .int .i64 12]) (by simp [results, Tryz.results40, go_sem, *]) rfl ⟨rs, c, by rw [his]; rfl, HRL.out, HOK.out, HK.out, (hw2.setCell (Nat.le_succ _) _).setCell (Nat.le_succ _) _⟩
  · rw [his] at c3'
    go_wp2
    exact bodyPost_ret (v := .tuple #[.agg #[.int .i64 c.lo, .int .i64 c.hi], .int .i64 0]) (by simp [results, Tryz.results40, go_sem, *]) rfl ⟨rs, c, by rw [his]; rfl, HRL.out, HOK.out, HK.out, (hw2.setCell (Nat.le_succ _) _).setCell (Nat.le_succ _) _⟩
end Go.Proofs.YtffkmgjmlahfpaaGreat
