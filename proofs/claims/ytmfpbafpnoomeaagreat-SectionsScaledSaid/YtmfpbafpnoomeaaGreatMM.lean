/- Lemmas. -/
import Derived.RangeFuncNested
import Derived.RangeFuncBound
import Derived.RangeFuncCalls
import Derived.RangeFuncLeaves
import Derived.RangeFuncFrom
import Derived.Deep.MidRow
import Derived.PlainAid
import Derived.Test.YtmfpbafpnoomeaaGreatMD
set_option linter.unusedVariables false
set_option linter.unusedSimpArgs false
namespace Go.Proofs.YtmfpbafpnoomeaaGreat
open Go.RowKit
namespace S
def eqpt (p q : Pt) : Bool := decide (p.x = q.x) && decide (p.y = q.y) && decide (p.z = q.z)
end S
def S.isMainB (b : Bx) : Bool := decide (b.lo.x < b.hi.x) && decide (b.lo.y = b.hi.y) && decide (b.lo.z = b.hi.z)
theorem Main_any (b : Bx) (w : World) :
 Calls Tryz.prog 195 #[boxV b] w fun e w' => e = .returned (.bool (S.isMainB b)) /\ Below w.heap.size w w' := by
 have H := lh (show S.isMainB b = (decide (b.lo.x < b.hi.x) && decide (b.lo.y = b.hi.y) && decide (b.lo.z = b.hi.z)) from rfl)
 unfold boxV
 go_enter Tryz.func195, Tryz.ntmps195
 go_wp2
 all_goals (go_ret; exact ⟨ret_b (by rw [H.out, Bool.eq_iff_iff]; all_goals (first | (simp at *; done) | (simp at *; omega))), bel⟩)
theorem mainleg_any (A : Option Addr) (n c : Nat) (xs : List Bx) (B : Nat) (w : World) (hn : xs.length = n) (hm : n <= 9223372036854775807) (hB : B <= w.heap.size) (hs : Cells w B A (xs.flatMap boxC)) :
 Calls Tryz.prog 148 #[.slice A n c] w fun e w' => e = .returned (.int .i64 (idxf xs S.isMainB)) /\ Below w.heap.size w w' := by
 have HN := lh hn
 clear hn
 go_enter Tryz.func148, Tryz.ntmps148
 go_wp2
 go_loopw [3] (fun i wr => ∃ k : Nat, k <= n /\ i = .int .i64 k /\ Hid (∀ j (h : j < xs.length), j < k -> S.isMainB xs[j] = false) /\ Below w.heap.size w wr) (fun i _ => n - (intOf i).toNat)
 case atStart => exact ⟨0, Nat.zero_le _, rfl, lh fun j _ hj => absurd hj (by omega), Below.refl _ _⟩
 case round =>
  obtain ⟨k, hk, rfl, HNO, hbr⟩ := hrel
  by_cases hlt : k < n
  ·have hki : (k : Int) < (n : Int) := by omega
   have hkx : k < xs.length := by have := HN.out; omega
   have hs' := hs.below (hbr.mono hB)
   obtain ⟨b, o, rfl, _, _⟩ := hs'.at_ (by rw [flat_len boxC 6 boxC_len]; omega)
   obtain ⟨c0, c1, c2, c3, c4, c5⟩ := hs'.boxes (List.getElem?_eq_getElem hkx)
   have HT := lh (Main_any xs[k])
   have HX := lh (fun hx => idxf_hit (p := S.isMainB) hkx hx HNO.out)
   generalize hq : S.isMainB xs[k] = q at *
   have HQ := lh hq
   clear hq
   cases q
   ·go_wp2_with (go_at_call 195; (with_reducible refine (HT.out _).mono ?_); rintro e w1 ⟨rfl, hbw1⟩; obtain ⟨hcw1, hfw1⟩ := bcell hbw1)
    go_roundw
    case rel =>
     refine ⟨k + 1, by omega, by go_num, lh fun j hj hjk => ?_, ba_via hbw1 hbr⟩
     by_cases hjk' : j = k
     ·subst hjk'; exact HQ.out
     ·exact HNO.out j hj (by omega)
    case measure => simp [intOf]; omega
   ·go_wp2_with (go_at_call 195; (with_reducible refine (HT.out _).mono ?_); rintro e w1 ⟨rfl, hbw1⟩; obtain ⟨hcw1, hfw1⟩ := bcell hbw1)
    go_ret
    exact ⟨ret_i (HX.out trivial).symm, ba_via hbw1 hbr⟩
  ·have HX := lh (idxf_miss (p := S.isMainB) (xs := xs) fun j hj => HNO.out j hj (by have := HN.out; omega))
   go_wp2
   go_ret
   exact ⟨ret_i HX.out.symm, hbr⟩
theorem rletter_any (c : Int) (w : World) (h0 : 0 <= c) (h1 : c <= 255) : Calls Tryz.prog 164 #[.int .u8 c] w fun e w' => e = .returned (.bool (S.letter c)) /\ w = w' := by
 have H := lh (show S.letter c = (decide (97 <= c) && decide (c <= 122) || decide (65 <= c) && decide (c <= 90)) from rfl)
 go_enter Tryz.func164, Tryz.ntmps164
 go_wp2
 all_goals (go_ret; exact ⟨ret_b (by rw [H.out, Bool.eq_iff_iff]; simp; omega), rfl⟩)
theorem rdigit_any (c : Int) (w : World) (h0 : 0 <= c) (h1 : c <= 255) : Calls Tryz.prog 215 #[.int .u8 c] w fun e w' => e = .returned (.bool (S.digit c)) /\ w = w' := by
 have H := lh (show S.digit c = (decide (48 <= c) && decide (c <= 57)) from rfl)
 go_enter Tryz.func215, Tryz.ntmps215
 go_wp2
 all_goals (go_ret; exact ⟨ret_b (by rw [H.out, Bool.eq_iff_iff]; simp; omega), rfl⟩)
set_option maxHeartbeats 1000000 in
theorem rword_any (s : ByteArray) (w : World) (hs : s.size <= 9223372036854775807) : Calls Tryz.prog 165 #[.string s, .int .i64 0] w fun e w' => e = .returned (.int .i64 (S.wordl s.data.toList : Nat)) /\ w = w' := by
 go_enter Tryz.func165, Tryz.ntmps165
 go_wp2
 go_loop [1] (fun i => ∃ k : Nat, k <= s.size /\ i = .int .i64 k /\ Hid (∀ j c, j < k -> s.data.toList[j]? = some c -> S.wordc c.toNat = true)) (fun i => s.size - (intOf i).toNat)
 case atStart => exact ⟨0, Nat.zero_le _, rfl, lh fun j c hj => absurd hj (by omega)⟩
 case round =>
  obtain ⟨k, hk, rfl, HNO⟩ := hrel
  by_cases hlt : k < s.size
  ·have hb := byte_bd s[k]
   have hget : s.data.toList[k]? = some s[k] := by simp [hlt]; rfl
   have HG := lh hget
   clear hget
   cases hl : S.letter s[k].toNat <;> cases hd : S.digit s[k].toNat <;> cases hu : ((s[k].toNat : Int) == 95)
   all_goals
    go_wp2_with (first
     | (go_at_call 164; (with_reducible refine (rletter_any _ _ hb.1 hb.2).mono ?_); rintro e w' ⟨rfl, rfl⟩)
     | (go_at_call 215; (with_reducible refine (rdigit_any _ _ hb.1 hb.2).mono ?_); rintro e w' ⟨rfl, rfl⟩))
    first
     | (go_ret
        exact ⟨ret_i (by rw [wordl_stop (k := k) HNO.out (by simp; omega) (.inr ⟨_, HG.out, by simp [S.wordc, hl, hd, hu]⟩)]), rfl⟩)
     | (go_round
        case rel => exact ⟨k + 1, by omega, by go_num, lh (wordl_more HNO.out HG.out (by simp [S.wordc, hl, hd, hu]))⟩
        case measure => simp [intOf]; omega)
  ·go_wp2
   go_ret
   exact ⟨ret_i (by rw [wordl_stop (k := k) HNO.out (by simp; omega) (.inl (by simp; omega))]), rfl⟩
set_option maxHeartbeats 1000000 in
theorem risname_any (s : ByteArray) (w : World) (hs : s.size <= 9223372036854775807) : Calls Tryz.prog 117 #[.string s] w fun e w' => e = .returned (.bool (S.isName s)) /\ w = w' := by
 have H := lh (show S.isName s = (!(s.size == 0) && decide (s.size <= 20) && S.letter ((s.data.toList.headD 0).toNat) && S.wordl s.data.toList == s.size) from rfl)
 have hwl := wordl_le s.data.toList
 rw [show s.data.toList.length = s.size from rfl] at hwl
 by_cases h0 : s.size = 0
 ·have he : s.toList = [] := by rw [Go.ByteArray.toList_eq]; exact List.eq_nil_of_length_eq_zero h0
  have he2 : s.toList.isEmpty = true := by rw [he]; rfl
  have hz : ((s.size : Int) == 0) = true := beq_iff_eq.2 (by omega)
  have H0 := lh h0
  clear h0
  go_enter Tryz.func117, Tryz.ntmps117
  go_wp2
  go_ret
  exact ⟨ret_b (by rw [H.out, H0.out]; simp), rfl⟩
 ·have hlt : 0 < s.size := by omega
  have he2 : s.toList.isEmpty = false := by
   rw [Go.ByteArray.toList_eq]
   cases hl : s.data.toList with
   | nil => exact absurd (congrArg List.length hl) h0
   | cons x l => rfl
  have hz : ((s.size : Int) == 0) = false := beq_eq_false_iff_ne.2 (by omega)
  have hb := byte_bd s[0]
  have hh : s.data.toList.headD 0 = s[0] := by
   have hg : s.data.toList[0]? = some s[0] := by simp [hlt]; rfl
   cases hl : s.data.toList with
   | nil => rw [hl] at hg; simp at hg
   | cons x l => rw [hl] at hg; simp at hg; simpa using hg
  have HH := lh hh
  have H0 := lh h0
  clear h0 hh
  by_cases h20 : s.size <= 20
  ·have h20' : decide ((s.size : Int) <= 20) = true := by simp; omega
   have h20'' : decide ((20 : Int) < s.size) = false := by simp; omega
   cases hl : S.letter s[0].toNat
   ·go_enter Tryz.func117, Tryz.ntmps117
    go_wp2_with (go_at_call 164; (with_reducible refine (rletter_any _ _ hb.1 hb.2).mono ?_); rintro e w' ⟨rfl, rfl⟩)
    go_ret
    exact ⟨ret_b (by rw [H.out, HH.out, hl]; simp), rfl⟩
   ·cases hw : (S.wordl s.data.toList == s.size)
    ·have hw2 : (((S.wordl s.data.toList : Nat) : Int) == (s.size : Int)) = false := by simp at hw ⊢; omega
     go_enter Tryz.func117, Tryz.ntmps117
     go_wp2_with (first
      | (go_at_call 164; (with_reducible refine (rletter_any _ _ hb.1 hb.2).mono ?_); rintro e w' ⟨rfl, rfl⟩)
      | (go_at_call 165; (with_reducible refine (rword_any s _ hs).mono ?_); rintro e w' ⟨rfl, rfl⟩))
     go_ret
     exact ⟨ret_b (by rw [H.out, HH.out, hl, hw]; simp), rfl⟩
    ·have hw2 : (((S.wordl s.data.toList : Nat) : Int) == (s.size : Int)) = true := by simp at hw ⊢; omega
     go_enter Tryz.func117, Tryz.ntmps117
     go_wp2_with (first
      | (go_at_call 164; (with_reducible refine (rletter_any _ _ hb.1 hb.2).mono ?_); rintro e w' ⟨rfl, rfl⟩)
      | (go_at_call 165; (with_reducible refine (rword_any s _ hs).mono ?_); rintro e w' ⟨rfl, rfl⟩))
     go_ret
     exact ⟨ret_b (by rw [H.out, HH.out, hl, hw]; simp [H0.out, h20]), rfl⟩
  ·have h20' : decide ((s.size : Int) <= 20) = false := by simp; omega
   have h20'' : decide ((20 : Int) < s.size) = true := by simp; omega
   go_enter Tryz.func117, Tryz.ntmps117
   go_wp2
   go_ret
   exact ⟨ret_b (by rw [H.out]; simp [h20]), rfl⟩
section
variable {F : Fence} {n : Nat} {P : Program}
def AbidesB {β : Type} (B : Nat) (J : β -> World -> Prop) : Prop := ∀ s A C, J s A -> Below B A C -> J s C
def SeqLaid {α : Type} (F : Fence) (n : Nat) (P : Program) (g : Nat) (lb : Array Value) (encs : α -> Array Value) (Kp : World -> World -> Prop) (R : List α -> α -> World -> Prop) (S : List α -> Prop) (w : World) : Prop :=
 ∀ (l : Nat) (J Jx : List α -> World -> Prop) (W : World), Below w.heap.size w W -> AbidesB W.heap.size J -> AbidesB W.heap.size Jx ->
  (∀ pre x V, J pre V -> R pre x V -> YieldAt F (n - 1) P l (encs x) V fun e V' => Kp V V' /\ ((e = .returned (.bool true) /\ J (pre ++ [x]) V') ∨ (e = .returned (.bool false) /\ Jx (pre ++ [x]) V'))) ->
  J [] W ->
  CallsIn F n P g (#[.func (.yield l) #[] #[]] ++ lb) W fun e W' => (∃ v, e = .returned v) /\ ((∃ xs, S xs /\ J xs W') ∨ (∃ pre x, Jx (pre ++ [x]) W' /\ R pre x W'))
def laidPost {α : Type} (Kp : World -> World -> Prop) (I : List α -> World -> Prop) (Ix : Code -> List α -> World -> Prop) (xs : List α) (W : World) (e : Exit) (_ : Act) (W' : World) : Prop :=
 KeepsOthers W W' /\ Kp W W' /\ match e with
  | .normal => I xs W'
  | .ret => Ix .ret xs W'
  | .exit id => Ix (.exit id) xs W'
  | .goto t => Ix (.goto t) xs W'
  | _ => False
theorem wpIn_rangeFunc_laid {α : Type} {g : Operand} {ps : Array Tmp} {assign body : Code} {Q : Exit -> Act -> World -> Prop} {a : Act} {w : World}
 (hro : F.round = none) (h1 : 1 <= n) {gf : Nat} {lb : Array Value} (hg : a.eval g = .func (.func gf) #[] lb) (hFg : F.fn gf) (eg : ∀ args w, (callFunc gf args).run P w = .ok (.enter gf args) w)
 {encs : α -> Array Value} {Kp : World -> World -> Prop} {R : List α -> α -> World -> Prop} {S : List α -> Prop} {w0 : World} (hseq : SeqLaid F (n - 1) P gf lb encs Kp R S w0)
 (hKt : ∀ {A B C : World}, Kp A B -> Kp B C -> Kp A C) (hKb : ∀ (W : World) (l : Nat) (o o' : Obj), w.heap.size <= l -> W.heap[l]? = some o -> o.isCells = false -> o.isWalk = false -> Kp W (W.putObj l o'))
 (hRk : ∀ pre x V V', R pre x V -> (∀ (l : Nat) (o o' : Obj), w.heap.size <= l -> V.heap[l]? = some o -> o.isCells = false -> V' = V.putObj l o' -> R pre x V'))
 (hb0 : Below w0.heap.size w0 w) (hps : ∀ x, (encs x).size = ps.size)
 (I : List α -> World -> Prop) (Ix : Code -> List α -> World -> Prop) (hI : AbidesB w.heap.size I) (hIx : ∀ c, AbidesB w.heap.size (Ix c)) (h0 : I [] w) (a₁ : α -> Act)
 (hassign : ∀ (l : Nat) (x : α) (W : World) (K : Act -> World -> Prop), K (a₁ x) W ->
   assign.wpIn (F.inRound l) (n - 1 - 1) P (Exit.then K (fun _ _ _ => False)) { tmps := (ps.zip (encs x)).foldl (fun t (p, v) => t.setIfInBounds p v) a.tmps, defers := [] } W)
 (hbody : ∀ (l : Nat) (pre : List α) (x : α) (W : World), I pre W -> R pre x W -> body.wpIn (F.inRound l) (n - 1 - 1) P (laidPost Kp I Ix (pre ++ [x]) W) (a₁ x) W)
 (hdone : ∀ (D : Nat) (xs : List α) (W : World), w.heap.size <= D -> S xs -> I xs W -> W.heap[D]? = some (.deferred (some [])) -> Q .normal { a with defers := { target := .collected D, args := #[] } :: a.defers } W)
 (hstop : ∀ (D : Nat) (c : Code) (pre : List α) (x : α) (W : World), w.heap.size <= D -> Ix c (pre ++ [x]) W -> R pre x W -> W.heap[D]? = some (.deferred (some [])) -> c.wpIn F n P Q { a with defers := { target := .collected D, args := #[] } :: a.defers } W) :
 (Code.rangeFunc g ps assign body).wpIn F n P Q a w := by
 refine wpIn_rangeFunc fun fn hfn => ?_
 rw [hro]
 -- the loop's record, by its state and the jump that waits; its block, and the block of the deferred calls
 obtain ⟨rc, hrc⟩ : ∃ rc : LoopState -> Option Code -> Loop, rc = fun st pe => { state := st, pending := pe, fn, tmps := a.tmps, params := ps, assign, body, defers := w.heap.size } := ⟨_, rfl⟩
 obtain ⟨L, hL⟩ : ∃ L, L = w.heap.size + 1 := ⟨_, rfl⟩
 obtain ⟨V, hV⟩ : ∃ V, V = (w.alloc (.deferred (some []))).alloc (.loop (rc .ready none)) := ⟨_, rfl⟩
 have hbooks : V.heap[L]? = some (.loop (rc .ready none)) /\ V.heap[w.heap.size]? = some (.deferred (some [])) := by
  rw [hV, hL]
  refine ⟨?_, (Below.heap_alloc _ _ _ (by simp)).trans (World.alloc_heap_new w _)⟩
  have := World.alloc_heap_new (w.alloc (.deferred (some []))) (.loop (rc .ready none))
  rwa [World.size_alloc] at this
 have hIV : I [] V := by rw [hV]; exact hI _ _ _ h0 (((Below.refl _ w).alloc (Nat.le_refl _) _).alloc (by simp) _)
 have hbV : Below w0.heap.size w0 V := by
  rw [hV]
  exact hb0.trans ((((Below.refl _ w).alloc (Nat.le_refl _) _).alloc (by simp) _).mono hb0.size)
 have hVs : V.heap.size = L + 1 := by rw [hV, hL]; simp
 refine ⟨L, [{ target := .collected w.heap.size, args := #[] }], V, { target := .fn (.func gf) lb, args := #[.func (.yield L) #[] #[]] }, V, gf, #[.func (.yield L) #[] #[]] ++ lb, V, ?_, ?_, ?_, ?_, fun _ => h1, ?_⟩
 ·rw [hV, hrc, hL]
  exact run_enterLoop_outer _ _ _ _ _
 ·simp only [resolve, hg]
  simp [go_sem]
 ·intro f' hf'
  simp [Target.leads] at hf'
  subst hf'
  exact hFg
 ·simp [invoke, go_sem, eg]
 have hpb : ∀ (U : World) (o : Obj), L < U.heap.size -> Below w.heap.size U (U.putObj L o) := fun U o hlt => ⟨rfl, rfl, rfl, by simp, fun k hk => World.putObj_heap_other (by omega)⟩
 have hput : ∀ {U : World} {o : Obj} {r : Nat}, w.heap.size ≠ r -> U.heap[w.heap.size]? = some (.deferred (some [])) -> (U.putObj r o).heap[w.heap.size]? = some (.deferred (some [])) := fun hne h => (World.putObj_heap_other hne).trans h
 refine (hseq L (fun pre U => I pre U /\ U.heap[L]? = some (.loop (rc .ready none)) /\ U.heap[w.heap.size]? = some (.deferred (some [])))
  (fun pre U => ∃ c, Ix c pre U /\ U.heap[L]? = some (.loop (rc .done (some c))) /\ U.heap[w.heap.size]? = some (.deferred (some []))) V hbV ?_ ?_ ?_ ⟨hIV, hbooks.1, hbooks.2⟩).mono ?_
 ·rintro s A C ⟨hi, hl, hd⟩ hb
  exact ⟨hI s A C hi (hb.mono (by omega)), (hb.block L (by omega)).trans hl, (hb.block w.heap.size (by omega)).trans hd⟩
 ·rintro s A C ⟨c, hi, hl, hd⟩ hb
  exact ⟨c, hIx c s A C hi (hb.mono (by omega)), (hb.block L (by omega)).trans hl, (hb.block w.heap.size (by omega)).trans hd⟩
 ·-- a round
  rintro pre x U ⟨hi, hl, hd⟩ hR
  have hy := run_yield (P := P) (args := encs x) hl (by rw [hrc]; exact hps x)
  rw [hrc] at hy
  refine ⟨fn, _, assign, body, hy, roundIn_of_wpIn hfn (hassign _ x U _ ⟨_, run_beginRound hl (by rw [hrc]), ?_⟩)⟩
  have hlt : L < U.heap.size := (Array.getElem?_eq_some_iff.1 hl).1
  obtain ⟨U1, hU1⟩ : ∃ U1, U1 = U.putObj L (.loop { rc .ready none with state := .busy }) := ⟨_, rfl⟩
  have hl1 : U1.heap[L]? = some (.loop { rc .ready none with state := .busy }) := by rw [hU1]; exact World.putObj_heap_same hlt
  have hd1 : U1.heap[w.heap.size]? = some (.deferred (some [])) := by rw [hU1]; exact hput (by omega) hd
  have hi1 : I pre U1 := by rw [hU1]; exact hI _ _ _ hi (hpb _ _ hlt)
  have hk1 : Kp U U1 := by rw [hU1]; exact hKb _ _ _ _ (by omega) hl rfl rfl
  have hR1 : R pre x U1 := hRk pre x U U1 hR L _ _ (by omega) hl rfl hU1
  rw [<- hU1]
  refine wpIn_mono (hbody _ pre x _ hi1 hR1) ?_
  rintro e a3 U3 ⟨hk3, hkp3, hx⟩
  -- the round's end
  have hl3 := hk3.same _ _ hl1 rfl
  have hd3 := hk3.same _ _ hd1 rfl
  have hend := fun (j : Option Code) => run_endRound (P := P) j hl3
  have hlt3 : L < U3.heap.size := (Array.getElem?_eq_some_iff.1 hl3).1
  have hkk : ∀ o', Kp U (U3.putObj L o') := fun o' => hKt (hKt hk1 hkp3) (hKb _ _ _ _ (by omega) hl3 rfl rfl)
  rw [hrc] at hend
  cases e with
  | normal => exact ⟨_, _, hend none, hkk _, .inl ⟨rfl, hI _ _ _ hx (hpb _ _ hlt3), by rw [hrc]; exact World.putObj_heap_same hlt3, hput (by omega) hd3⟩⟩
  | ret => exact ⟨_, _, hend (some .ret), hkk _, .inr ⟨rfl, .ret, hIx _ _ _ _ hx (hpb _ _ hlt3), by rw [hrc]; exact World.putObj_heap_same hlt3, hput (by omega) hd3⟩⟩
  | exit id => exact ⟨_, _, hend (some (.exit id)), hkk _, .inr ⟨rfl, .exit id, hIx _ _ _ _ hx (hpb _ _ hlt3), by rw [hrc]; exact World.putObj_heap_same hlt3, hput (by omega) hd3⟩⟩
  | goto t => exact ⟨_, _, hend (some (.goto t)), hkk _, .inr ⟨rfl, .goto t, hIx _ _ _ _ hx (hpb _ _ hlt3), by rw [hrc]; exact World.putObj_heap_same hlt3, hput (by omega) hd3⟩⟩
  | panic ch => exact hx.elim
  | outgrown => exact hx.elim
 ·-- behind the iterator
  rintro e U ⟨⟨v, rfl⟩, (⟨xs, hS, hi, hl, hd⟩ | ⟨pre, x, ⟨c, hi, hl, hd⟩, hR⟩)⟩
  ·have he := run_endLoop (P := P) hl (by rw [hrc]; simp)
   rw [hrc] at he
   exact ⟨none, _, he, hdone _ xs _ (Nat.le_refl _) hS (hI _ _ _ hi (hpb _ _ (Array.getElem?_eq_some_iff.1 hl).1)) (hput (by omega) hd)⟩
  ·have he := run_endLoop (P := P) hl (by rw [hrc]; simp)
   rw [hrc] at he
   exact ⟨some c, _, he, hstop _ c pre x _ (Nat.le_refl _) (hIx c _ _ _ hi (hpb _ _ (Array.getElem?_eq_some_iff.1 hl).1)) (hRk pre x U _ hR L _ _ (by omega) hl rfl rfl) (hput (by omega) hd)⟩
end
structure Sp where
 lo : Int
 hi : Int
namespace S
def place (n : Int) : Bool := decide (-1048576 <= n) && decide (n <= 1048576)
def wide (a b : Sp) : Int := if a.hi - a.lo < b.hi - b.lo then b.hi - b.lo else a.hi - a.lo
end S
theorem cnt_set : ∀ (l : List Bool) (i : Nat), l[i]? = some false -> (l.set i true).count false + 1 = l.count false := by
 intro l
 induction l with
 | nil => intro i h; simp at h
 | cons b l ih =>
  intro i h
  cases i with
  | zero =>
   simp only [List.getElem?_cons_zero, Option.some.injEq] at h
   subst h
   simp
  | succ i =>
   simp only [List.getElem?_cons_succ] at h
   have := ih i h
   cases b <;> simp <;> omega
section
variable {P : Program} {l : List Oper} {V : Nat -> Value -> World -> Prop} {S : Act -> World -> Prop} {G : World -> World -> Prop} {Q : Exit -> Act -> World -> Prop}
end
theorem op_val {P : Program} {ops : Array Oper} {Q : Exit -> Act -> World -> Prop} {j : Nat} {K : Act -> World -> Prop} {a : Act} {w w' : World} {o : Oper} {v : Value} (ho : ops[j]? = some o) (hg : o.guard = none)
 (hr : (execOp a.eval o).run P w = .ok (.value v) w') (hK : K (a.put o.dst v) w') : wpOp P ops Q j K a w := by
 unfold wpOp
 rw [ho]
 simp only []
 rw [if_pos (by simp [Region.wanted, hg])]
 left
 unfold Oper.wp
 rw [hr]
 exact hK
theorem op_skip {P : Program} {ops : Array Oper} {Q : Exit -> Act -> World -> Prop} {j : Nat} {K : Act -> World -> Prop} {a : Act} {w w' : World} {o : Oper} (ho : ops[j]? = some o) (hg : o.guard = none)
 (hr : (execOp a.eval o).run P w = .ok .skip w') (hK : K (a.put o.dst undef) w') : wpOp P ops Q j K a w := by
 unfold wpOp
 rw [ho]
 simp only []
 rw [if_pos (by simp [Region.wanted, hg])]
 left
 unfold Oper.wp
 rw [hr]
 exact hK
def earlyB (md : Region.Mode) (l : List Oper) : Bool := (List.range l.length).all fun j => match l[j]? with | some o => o.after.all (fun e => !Region.binds md e || decide (e.on < j)) | none => true
theorem earlyB_out {md : Region.Mode} {l : List Oper} (h : earlyB md l = true) : ∀ (j : Nat) (oj : Oper), l[j]? = some oj -> ∀ e ∈ oj.after, Region.binds md e = true -> e.on < j := by
 intro j oj hj e he hb
 unfold earlyB at h
 rw [List.all_eq_true] at h
 have := h j (by simpa using (List.getElem?_eq_some_iff.1 hj).1)
 rw [hj] at this
 simp only [Array.all_eq_true_iff_forall_mem] at this
 have := this e he
 simp only [hb, Bool.not_true, Bool.false_or, decide_eq_true_eq] at this
 exact this
theorem exc_setCells (b : Nat) : ∀ (vs : List Value) (o : Nat) (w : World), Exc [b] w (w.setCells b o vs) := by
 intro vs
 induction vs with
 | nil => intro o w; exact Exc.refl _ _
 | cons v r ih =>
  intro o w
  have h1 : Exc [b] w (w.setCell ⟨b, o, none⟩ v) := (Exc.refl _ _).set (.inl (by simp)) v
  have h2 := ih (o + 1) (w.setCell ⟨b, o, none⟩ v)
  exact ⟨h2.os.trans h1.os, h2.tape.trans h1.tape, h2.output.trans h1.output, Nat.le_trans h1.size h2.size, fun k hk hm => (h2.block k (Nat.lt_of_lt_of_le hk h1.size) hm).trans (h1.block k hk hm)⟩
section
variable {P : Program} {ops : Array Oper} {md : Region.Mode} {C : World -> Prop}
def calmB (o : Oper) : Bool := match o.op with
 | .move _ | .assign _ | .pick _ _ _ | .build _ _ | .load _ _ | .binOp _ _ _ _ _ | .unOp _ _ _ | .convert _ _ _ | .slice _ _ _ _ _ | .fieldAddr _ _ _ | .field _ _ _ | .indexAddr _ _ _ | .index _ _ _ | .extract _ _ | .lookup _ _ _ _ => true
 | .call c => (match c.callee with | .builtin .len => true | .builtin .cap => true | .builtin .max => true | .builtin .min => true | _ => false)
 | _ => false
theorem v_value {s : Sem Value} {n : Next} {w w' : World} (h : (do pure (Next.value (<- s)) : Sem Next).run P w = .ok n w') : ∃ v, n = .value v := by
 rw [Sem.run_bind] at h
 cases hs : s.run P w with
 | ok u w1 =>
  rw [hs] at h
  simp only [Result.andThen_ok, Sem.run_pure] at h
  injection h with h1 h2
  exact ⟨u, h1.symm⟩
 | halt x w1 =>
  rw [hs] at h
  cases h
theorem p_value {s : Sem Bool} {a b : Value} {n : Next} {w w' : World} (h : (do pure (Next.value (if <- s then a else b)) : Sem Next).run P w = .ok n w') : ∃ v, n = .value v := by
 rw [Sem.run_bind] at h
 cases hs : s.run P w with
 | ok u w1 =>
  rw [hs] at h
  simp only [Result.andThen_ok, Sem.run_pure] at h
  injection h with h1 h2
  exact ⟨_, h1.symm⟩
 | halt x w1 =>
  rw [hs] at h
  cases h
theorem call_value {ρ : Operand -> Value} {c : Call} {t : TypeId} {b : Builtin} (hb : b = .len ∨ b = .cap ∨ b = .max ∨ b = .min) (hc : c.callee = .builtin b) {n : Next} {w w' : World}
 (h : (do let d <- resolve ρ c t; invoke d.target d.args : Sem Next).run P w = .ok n w') : ∃ v, n = .value v := by
 rw [Sem.run_bind] at h
 unfold resolve at h
 simp only [hc, Sem.run_pure, Result.andThen_ok, invoke] at h
 rcases hb with rfl | rfl | rfl | rfl
 all_goals (simp only [builtin] at h; exact v_value h)
theorem calm_value {o : Oper} (hc : calmB o = true) {ρ : Operand -> Value} {n : Next} {w w' : World} (h : (execOp ρ o).run P w = .ok n w') : ∃ v, n = .value v := by
 unfold calmB at hc
 unfold execOp at h
 split at hc
 all_goals (rename_i ho; try (rw [ho] at h))
 all_goals (first | exact v_value h | (simp only [Sem.run_pure] at h; injection h with h1 h2; exact ⟨_, h1.symm⟩) | exact p_value h | skip)
 ·split at hc
  ·rename_i hb; exact call_value (.inl rfl) hb h
  ·rename_i hb; exact call_value (.inr (.inl rfl)) hb h
  ·rename_i hb; exact call_value (.inr (.inr (.inl rfl))) hb h
  ·rename_i hb; exact call_value (.inr (.inr (.inr rfl))) hb h
  ·cases hc
 ·cases hc
def stopPost : Exit -> Act -> World -> Prop := fun _ _ _ => False
def segPost (C : World -> Prop) (next : Act -> World -> Prop) : Exit -> Act -> World -> Prop
 | .normal, a, w => C w /\ next a w
 | _, _, _ => False
theorem calm_at {o : Oper} {a : Act} {w : World} {v : Value} (hc : calmB o = true) (h : o.quietAt P a C w v) : (execOp a.eval o).run P w = .ok (.value v) w := by
 unfold Oper.quietAt at h
 generalize hr : (execOp a.eval o).run P w = r at h
 cases r with
 | ok n w' =>
  obtain ⟨u, rfl⟩ := calm_value hc hr
  obtain ⟨rfl, rfl⟩ := h
  rfl
 | halt x w' => exact (show False from h).elim
theorem yields_one {o : Oper} {a : Act} {w : World} {v v' : Value} (hc : calmB o = true) (hw : C w) (h : YieldsIn P ops C o v a) (h' : YieldsIn P ops C o v' a) : v = v' := by
 rcases h with ⟨h1, h2⟩ | ⟨h1, rfl⟩ <;> rcases h' with ⟨g1, g2⟩ | ⟨g1, rfl⟩
 ·have e1 := calm_at hc (h2 w hw)
  rw [calm_at hc (g2 w hw)] at e1
  injection e1 with e1 _
  injection e1 with e1
  exact e1.symm
 ·rw [h1] at g1; cases g1
 ·rw [h1] at g1; cases g1
 ·rfl
theorem lets_stop (h : LetsOut stopPost) : False := by
 obtain ⟨_, _, h⟩ := h
 exact h
theorem wpOp_putC {j : Nat} {oi oj : Oper} {v : Value} (hj : ops[j]? = some oj) (hap : oi.apart ops oj = true) (hsi : ∀ cs b, oi.op ≠ .select cs b) (hsj : ∀ cs b, oj.op ≠ .select cs b) {K : Act -> World -> Prop} {a : Act} {w : World}
 (hy : YieldsIn P ops C oi v a) (h : wpOp P ops stopPost j K (a.put oi.dst v) w) : wpOp P ops stopPost j (fun a' w' => YieldsIn P ops C oi v a' /\ K (a'.put oi.dst v) w') a w := by
 obtain ⟨h1, h2, h3⟩ := Oper.apart_spec hap
 have keep : ∀ (a : Act), YieldsIn P ops C oi v a -> ∀ u, YieldsIn P ops C oi v (a.put oj.dst u) := fun a hy u =>
  hy.of_same (execOp_put oi hsi a oj.dst u h3) (wanted_put oi a oj.dst u h3)
 have keepD : ∀ d, YieldsIn P ops C oi v { a with defers := d :: a.defers } := fun d => hy.of_same rfl rfl
 unfold wpOp at *
 simp only [hj] at *
 rw [wanted_put oj a oi.dst v h1] at h
 split
 ·rename_i hw
  simp only [hw, if_true] at h
  rcases h with h | ⟨hasks, hlets⟩
  case inr => exact (lets_stop hlets).elim
  refine .inl ?_
  unfold Oper.wp at *
  rw [execOp_put oj hsj a oi.dst v h1] at h
  generalize (execOp a.eval oj).run P w = r at *
  cases r with
  | ok n w' =>
   cases n <;> simp only [Oper.upon] at h ⊢
   case value u => exact ⟨keep a hy u, by rw [<- Act.put_comm a v u h2]; exact h⟩
   case skip => exact ⟨keep a hy _, by rw [<- Act.put_comm a v undef h2]; exact h⟩
   case defer d =>
    refine ⟨keep _ (keepD d) _, ?_⟩
    rw [<- Act.put_comm _ v undef h2, <- Act.put_defers]
    exact h
   case enter f args =>
    refine Calls.mono h fun e w'' he => ?_
    cases e with
    | returned u => exact ⟨keep a hy u, by rw [<- Act.put_comm a v u h2]; exact he⟩
    | panicked c => exact he
    | outgrown => exact he
   case row row args => exact Rows.mono h fun u w'' he => ⟨keep a hy u, by rw [<- Act.put_comm a v u h2]; exact he⟩
  | halt x w' =>
   cases x <;> simp only [Oper.upon] at h ⊢
   case panic u => exact h
 ·rename_i hw
  simp only [hw] at h
  exact ⟨keep a hy _, by rw [<- Act.put_comm a v undef h2]; exact h⟩
theorem wpOp_back {i : Nat} {oi oj : Oper} {v : Value} (hi : ops[i]? = some oi) (hap : oi.apart ops oj = true) (hsi : ∀ cs b, oi.op ≠ .select cs b) (hsj : ∀ cs b, oj.op ≠ .select cs b) {K K' : Act -> World -> Prop} {a : Act} {w : World}
 (hy : YieldsIn P ops C oj v a) (hK : ∀ a' w', YieldsIn P ops C oj v a' -> K a' w' -> K' (a'.put oj.dst v) w') (h : wpOp P ops stopPost i K a w) : wpOp P ops stopPost i K' (a.put oj.dst v) w := by
 obtain ⟨h3, h2, h1⟩ := Oper.apart_spec hap
 have h2' : ∀ d, oj.dst = some d -> oi.dst ≠ some d := fun d hd he => h2 d he hd
 have keep : ∀ (a : Act), YieldsIn P ops C oj v a -> ∀ u, YieldsIn P ops C oj v (a.put oi.dst u) := fun a hy u =>
  hy.of_same (execOp_put oj hsj a oi.dst u h3) (wanted_put oj a oi.dst u h3)
 have keepD : ∀ d, YieldsIn P ops C oj v { a with defers := d :: a.defers } := fun d => hy.of_same rfl rfl
 unfold wpOp at *
 simp only [hi] at *
 rw [wanted_put oi a oj.dst v h1]
 split
 ·rename_i hw
  simp only [hw, if_true] at h
  rcases h with h | ⟨hasks, hlets⟩
  case inr => exact (lets_stop hlets).elim
  refine .inl ?_
  unfold Oper.wp at *
  rw [execOp_put oi hsi a oj.dst v h1]
  generalize (execOp a.eval oi).run P w = r at *
  cases r with
  | ok n w' =>
   cases n <;> simp only [Oper.upon] at h ⊢
   case value u => rw [Act.put_comm a v u h2']; exact hK _ _ (keep a hy u) h
   case skip => rw [Act.put_comm a v undef h2']; exact hK _ _ (keep a hy _) h
   case defer d =>
    have := hK _ _ (keep _ (keepD d) _) h
    rw [<- Act.put_comm _ v undef h2', <- Act.put_defers] at this
    exact this
   case enter f args =>
    refine Calls.mono h fun e w'' he => ?_
    cases e with
    | returned u =>
     simp only [] at he ⊢
     rw [Act.put_comm a v u h2']; exact hK _ _ (keep a hy u) he
    | panicked c => exact he
    | outgrown => exact he
   case row row args => exact Rows.mono h fun u w'' he => by rw [Act.put_comm a v u h2']; exact hK _ _ (keep a hy u) he
  | halt x w' =>
   cases x <;> simp only [Oper.upon] at h ⊢
   case panic u => exact h
 ·rename_i hw
  simp only [hw] at h
  rw [Act.put_comm a v undef h2']
  exact hK _ _ (keep a hy _) h
theorem wpOp_some {i : Nat} {oi : Oper} (hi : ops[i]? = some oi) {K : Act -> World -> Prop} {a : Act} {w : World} (h : wpOp P ops stopPost i K a w) :
 ∃ a0 u w', K (a0.put oi.dst u) w' /\ (a0 = a ∨ ∃ d, a0 = { a with defers := d :: a.defers }) := by
 unfold wpOp at h
 simp only [hi] at h
 split at h
 ·rcases h with h | ⟨_, hlets⟩
  case inr => exact (lets_stop hlets).elim
  unfold Oper.wp at h
  generalize (execOp a.eval oi).run P w = r at *
  cases r with
  | ok n w' =>
   cases n <;> simp only [Oper.upon] at h
   case value u => exact ⟨a, u, w', h, .inl rfl⟩
   case skip => exact ⟨a, _, w', h, .inl rfl⟩
   case defer d => exact ⟨_, _, w', h, .inr ⟨d, rfl⟩⟩
   case enter f args =>
    obtain ⟨e, w'', fr, he, _⟩ := h []
    cases e with
    | returned u => exact ⟨a, u, w'', he, .inl rfl⟩
    | panicked c => exact (show False from he).elim
    | outgrown => exact (lets_stop he).elim
   case row row args =>
    obtain ⟨v, w'', he, _⟩ := h (Frame.ofRow P row args .normal) []
    exact ⟨a, v, w'', he, .inl rfl⟩
  | halt x w' =>
   cases x <;> simp only [Oper.upon] at h
   case panic u => exact (show False from h).elim
 ·exact ⟨a, _, w, h, .inl rfl⟩
theorem wp_stop {o : Oper} {K : Act -> World -> Prop} {Q : Exit -> Act -> World -> Prop} {a : Act} {w : World} (h : o.wp P a w K stopPost) : o.wp P a w K Q := by
 unfold Oper.wp at *
 generalize (execOp a.eval o).run P w = r at *
 cases r with
 | ok n w' =>
  cases n <;> simp only [Oper.upon] at h ⊢ <;> try exact h
  refine Calls.mono h fun e w'' he => ?_
  cases e with
  | returned u => exact he
  | panicked c => exact (show False from he).elim
  | outgrown => exact (lets_stop he).elim
 | halt x w' =>
  cases x <;> simp only [Oper.upon] at h ⊢
  case panic u => exact (show False from h).elim
theorem wpOp_stop {i : Nat} {K : Act -> World -> Prop} {Q : Exit -> Act -> World -> Prop} {a : Act} {w : World} (h : wpOp P ops stopPost i K a w) : wpOp P ops Q i K a w := by
 unfold wpOp at *
 split
 ·rename_i ho; simp only [ho] at h; exact h
 ·rename_i o ho
  simp only [ho] at h
  split
  ·rename_i hw
   simp only [hw, if_true] at h
   rcases h with h | ⟨_, hlets⟩
   ·exact .inl (wp_stop h)
   ·exact (lets_stop hlets).elim
  ·rename_i hw
   simp only [hw] at h
   exact h
def wpMix (P : Program) (ops : Array Oper) (C : World -> Prop) (ks : Nat -> Bool) (K : Act -> World -> Prop) (listed : Array Bool) : List Nat -> Act -> World -> Prop
 | [], a, w => K a w
 | i :: R, a, w => if listed.getD i false = true then wpMix P ops C ks K listed R a w
  else if ks i = true then wpOp P ops stopPost i (fun a' w' => C w' /\ wpMix P ops C ks K listed R a' w') a w
  else qOp P ops C i (fun a' => wpMix P ops C ks K listed R a' w) a
theorem wpMix_congr {ks : Nat -> Bool} {K : Act -> World -> Prop} {l1 l2 : Array Bool} : ∀ {R : List Nat}, (∀ i, i ∈ R -> l1.getD i false = l2.getD i false) -> wpMix P ops C ks K l1 R = wpMix P ops C ks K l2 R := by
 intro R
 induction R with
 | nil => intro _; rfl
 | cons i R ih =>
  intro h
  have e := ih (fun i hi => h i (List.mem_cons_of_mem _ hi))
  funext a w
  simp only [wpMix, e, h i List.mem_cons_self]
theorem pull {ks : Nat -> Bool} {K : Act -> World -> Prop} (hsel : ∀ (j : Nat) (o : Oper) cs b, ops[j]? = some o -> o.op ≠ .select cs b) (hcalm : ∀ i o, ops[i]? = some o -> ks i = false -> calmB o = true)
 {listed : Array Bool} {j : Nat} {oj : Oper} (hj : ops[j]? = some oj) (hjl : listed.getD j false = false) (hjs : j < listed.size) :
 ∀ R : List Nat, R.Pairwise (· < ·) -> j ∈ R -> (∀ i, i ∈ R -> i < j -> listed.getD i false = false -> ∃ oi, ops[i]? = some oi /\ oi.apart ops oj = true) -> (ks j = true -> ∀ i, i ∈ R -> i < j -> listed.getD i false = false -> ks i = false) ->
 ∀ (a : Act) (w : World), C w -> wpMix P ops C ks K listed R a w -> if ks j = true then wpOp P ops stopPost j (fun a' w' => C w' /\ wpMix P ops C ks K (listed.setIfInBounds j true) R a' w') a w else qOp P ops C j (fun a' => wpMix P ops C ks K (listed.setIfInBounds j true) R a' w) a := by
 intro R
 induction R with
 | nil => intro _ h; cases h
 | cons i R ih =>
  intro hp hm hap hch a w hC h
  have hjt : (listed.setIfInBounds j true).getD j false = true := by simp [Array.getD_eq_getD_getElem?, hjs]
  obtain ⟨hlt, hpR⟩ := List.pairwise_cons.1 hp
  by_cases hij : i = j
  ·subst hij
   have hni : i ∉ R := fun hi => absurd (hlt i hi) (Nat.lt_irrefl _)
   have e : wpMix P ops C ks K (listed.setIfInBounds i true) (i :: R) = wpMix P ops C ks K listed R := by
    funext a w
    simp only [wpMix, hjt, if_true]
    rw [wpMix_congr (fun k hk => getD_set_ne false (fun (e : i = k) => hni (by rw [e]; exact hk)))]
   rw [e]
   simp only [wpMix, hjl, Bool.false_eq_true, if_false] at h
   exact h
  ·have hjR : j ∈ R := by
    rcases List.mem_cons.1 hm with h1 | h1
    ·exact absurd h1.symm hij
    ·exact h1
   have hi_lt := hlt j hjR
   have ih' := ih hpR hjR (fun k hk => hap k (List.mem_cons_of_mem _ hk)) (fun h k hk => hch h k (List.mem_cons_of_mem _ hk))
   have hset : (listed.setIfInBounds j true).getD i false = listed.getD i false := getD_set_ne false (fun e => hij e.symm)
   by_cases hl : listed.getD i false = true
   ·simp only [wpMix, hset, hl, if_true] at h ⊢
    exact ih' a w hC h
   ·have hl' : listed.getD i false = false := by simpa using hl
    obtain ⟨oi, hoi, hapi⟩ := hap i List.mem_cons_self hi_lt hl'
    simp only [wpMix, hset, hl', Bool.false_eq_true, if_false] at h ⊢
    by_cases hk : ks i = true
    ·have hkj : ks j = false := by
      cases hkj : ks j with
      | false => rfl
      | true =>
       have := hch hkj i List.mem_cons_self hi_lt hl'
       rw [hk] at this
       cases this
     simp only [hkj, Bool.false_eq_true, if_false] at ih' ⊢
     rw [if_pos hk] at h
     obtain ⟨a0, u, w1, ⟨hC1, h1⟩, ha0⟩ := wpOp_some hoi h
     obtain ⟨v, hy, _⟩ := yieldsIn_of_qOp hj (ih' _ _ hC1 h1)
     obtain ⟨g1, g2, g3⟩ := Oper.apart_spec hapi
     have hy0 : YieldsIn P ops C oj v a0 := hy.of_same (execOp_put oj (fun cs b => hsel j oj cs b hj) a0 oi.dst u g1).symm (wanted_put oj a0 oi.dst u g1).symm
     have hya : YieldsIn P ops C oj v a := by
      rcases ha0 with rfl | ⟨d, rfl⟩
      ·exact hy0
      ·exact hy0.of_same rfl rfl
     refine hya.qOp hj ?_
     rw [if_pos hk]
     refine wpOp_back hoi hapi (fun cs b => hsel i oi cs b hoi) (fun cs b => hsel j oj cs b hj) hya (fun a' w' hy' hh => ⟨hh.1, ?_⟩) h
     obtain ⟨v', hv', hn⟩ := yieldsIn_of_qOp hj (ih' _ _ hh.1 hh.2)
     rw [yields_one (hcalm j oj hj hkj) hh.1 hy' hv']
     exact hn
    ·have hk' : ks i = false := by simpa using hk
     simp only [hk', Bool.false_eq_true, if_false] at h ⊢
     obtain ⟨v, hy, hn⟩ := yieldsIn_of_qOp hoi h
     have h2 := ih' _ _ hC hn
     by_cases hkj : ks j = true
     ·rw [if_pos hkj] at h2 ⊢
      refine wpOp_mono ?_ (wpOp_putC hj hapi (fun cs b => hsel i oi cs b hoi) (fun cs b => hsel j oj cs b hj) hy h2)
      rintro a' w' ⟨hy', hC', hm'⟩
      exact ⟨hC', hy'.qOp hoi hm'⟩
     ·rw [if_neg hkj] at h2 ⊢
      refine qOp_mono ?_ (qOp_put hj hapi (fun cs b => hsel i oi cs b hoi) (fun cs b => hsel j oj cs b hj) hy h2)
      rintro a' ⟨hy', hm'⟩
      exact hy'.qOp hoi hm'
theorem wpOp_calm {i : Nat} {oi : Oper} {Q : Exit -> Act -> World -> Prop} {K : Act -> Prop} {a : Act} {w : World} (hi : ops[i]? = some oi) (hc : calmB oi = true) (hC : C w) (h : qOp P ops C i K a) : wpOp P ops Q i (fun a' w' => w' = w /\ K a') a w := by
 obtain ⟨v, hy, hK⟩ := yieldsIn_of_qOp hi h
 unfold wpOp
 simp only [hi]
 rcases hy with ⟨hw, hv⟩ | ⟨hw, rfl⟩
 ·rw [if_pos hw]
  refine .inl ?_
  unfold Oper.wp
  rw [calm_at hc (hv w hC)]
  exact ⟨by first | rfl | trivial, hK⟩
 ·rw [if_neg (by simp [hw])]
  exact ⟨by first | rfl | trivial, hK⟩
def linkB (md : Region.Mode) (ops : Array Oper) : Nat -> Nat -> Nat -> Bool
 | 0, _, _ => false
 | f + 1, j, i => Region.waitsFor md ops j i || (List.range' (i + 1) (j - (i + 1))).any (fun k => Region.waitsFor md ops j k && linkB md ops f k i)
theorem link_listed {n : Nat} {listed : Array Bool} (inv : HeadInv md ops n listed) : ∀ (f j i : Nat), linkB md ops f j i = true -> listed.getD j false = true -> listed.getD i false = true := by
 have hw : ∀ j i, Region.waitsFor md ops j i = true -> listed.getD j false = true -> listed.getD i false = true := fun j i h hj => by
  obtain ⟨oj, hoj, e, he, hb, hon⟩ := Region.waitsFor_spec h
  have := inv.closed j oj hoj hj e he hb
  rwa [hon] at this
 intro f
 induction f with
 | zero => intro j i h; cases h
 | succ f ih =>
  intro j i h hj
  simp only [linkB, Bool.or_eq_true, List.any_eq_true, Bool.and_eq_true] at h
  rcases h with h | ⟨k, _, h1, h2⟩
  ·exact hw j i h hj
  ·exact ih k i h2 (hw j k h1 hj)
theorem link_ready {n : Nat} {listed : Array Bool} (inv : HeadInv md ops n listed) {f j i : Nat} (h : linkB md ops f j i = true) (hj : j ∈ Region.ready md ops listed) : listed.getD i false = true := by
 obtain ⟨_, oj, hoj, hall⟩ := mem_ready.1 hj
 have hw : ∀ i, Region.waitsFor md ops j i = true -> listed.getD i false = true := fun i h => by
  obtain ⟨o', ho', e, he, hb, hon⟩ := Region.waitsFor_spec h
  obtain rfl : o' = oj := Option.some.inj (ho'.symm.trans hoj)
  have := hall e he hb
  rwa [hon] at this
 cases f with
 | zero => cases h
 | succ f =>
  simp only [linkB, Bool.or_eq_true, List.any_eq_true, Bool.and_eq_true] at h
  rcases h with h | ⟨k, _, h1, h2⟩
  ·exact hw i h
  ·exact link_listed inv f k i h2 (hw k h1)
def linksB (md : Region.Mode) (ops : Array Oper) : List Nat -> Bool
 | a :: b :: r => decide (a < b) && linkB md ops (b - a) b a && linksB md ops (b :: r)
 | _ => true
theorem links_order {n : Nat} {listed : Array Bool} (inv : HeadInv md ops n listed) : ∀ {l : List Nat}, linksB md ops l = true -> ∀ i j, i ∈ l -> j ∈ l -> i < j -> (j ∈ Region.ready md ops listed ∨ listed.getD j false = true) -> listed.getD i false = true := by
 intro l
 induction l with
 | nil => intro _ i j hi; cases hi
 | cons a l ih =>
  intro h i j hi hj hlt hr
  cases l with
  | nil =>
   simp only [List.mem_cons, List.not_mem_nil, or_false] at hi hj
   omega
  | cons b r =>
   simp only [linksB, Bool.and_eq_true, decide_eq_true_eq] at h
   obtain ⟨⟨hab, hl⟩, hb⟩ := h
   have hsorted : ∀ k, k ∈ b :: r -> b <= k := by
    have : ∀ (l : List Nat) (b : Nat), linksB md ops (b :: l) = true -> ∀ k, k ∈ b :: l -> b <= k := by
     intro l
     induction l with
     | nil => intro b _ k hk; simp at hk; omega
     | cons c l ih =>
      intro b h k hk
      simp only [linksB, Bool.and_eq_true, decide_eq_true_eq] at h
      rcases List.mem_cons.1 hk with rfl | hk
      ·exact Nat.le_refl _
      ·have := ih c h.2 k hk; omega
    exact this r b hb
   rcases List.mem_cons.1 hi with rfl | hi'
   ·have hjb : j ∈ b :: r := by
     rcases List.mem_cons.1 hj with h1 | h1
     ·omega
     ·exact h1
    have hbj := hsorted j hjb
    by_cases hbe : j = b
    ·subst hbe
     rcases hr with hr | hr
     ·exact link_ready inv hl hr
     ·exact link_listed inv _ _ _ hl hr
    ·have := ih hb b j List.mem_cons_self hjb (by omega) hr
     exact link_listed inv _ _ _ hl this
   ·have hib := hsorted i hi'
    refine ih hb i j hi' ?_ hlt hr
    rcases List.mem_cons.1 hj with h1 | h1
    ·omega
    ·exact h1
def apartAllB (md : Region.Mode) (ops : Array Oper) : Bool := (List.range ops.size).all fun j => (List.range j).all fun i => Region.waitsFor md ops j i || (match ops[i]?, ops[j]? with | some oi, some oj => oi.apart ops oj | _, _ => true)
theorem apartAll_out (h : apartAllB md ops = true) {i j : Nat} {oi oj : Oper} (hij : i < j) (hi : ops[i]? = some oi) (hj : ops[j]? = some oj) (hw : Region.waitsFor md ops j i = false) : oi.apart ops oj = true := by
 unfold apartAllB at h
 rw [List.all_eq_true] at h
 have h1 := h j (List.mem_range.2 (Array.getElem?_eq_some_iff.1 hj).1)
 rw [List.all_eq_true] at h1
 have h2 := h1 i (List.mem_range.2 hij)
 rw [hw, hi, hj] at h2
 simpa using h2
def canonL (t n : Nat) : Array Bool := (List.replicate t true ++ List.replicate (n - t) false).toArray
def mixB (md : Region.Mode) (ops : Array Oper) (t : Nat) (l : List Nat) : Bool :=
 Region.noSelect ops && decide (t < ops.size) && Region.sinkB md ops t && Region.chainB md ops t && apartAllB md ops && earlyB md ops.toList && linksB md ops l && (List.range t).all (fun i => l.contains i || (match ops[i]? with | some o => calmB o | none => true)) && Region.seqB md ops (ops.size - t) t (canonL t ops.size)
theorem mix_any {Q : Exit -> Act -> World -> Prop} {t : Nat} {l : List Nat} (hB : mixB md ops t l = true) :
 ∀ (f : Nat) (listed : Array Bool) (a : Act) (w : World), listed.toList.count false = f -> HeadInv md ops t listed -> C w ->
  wpMix P ops C (fun i => l.contains i || decide (t <= i)) (wpList P ops Q (ops.toList.drop t)) listed (List.range t) a w -> wpAny P md ops Q f listed a w := by
 simp only [mixB, Bool.and_eq_true, decide_eq_true_eq] at hB
 obtain ⟨⟨⟨⟨⟨⟨⟨⟨hsel, hn⟩, hs⟩, hc⟩, hap⟩, hear⟩, hl⟩, hcm⟩, hseq⟩ := hB
 have hsel' := Region.noSelect_spec hsel
 have hcalm : ∀ i o, ops[i]? = some o -> (l.contains i || decide (t <= i)) = false -> calmB o = true := fun i o ho hk => by
  rw [Bool.or_eq_false_iff, decide_eq_false_iff_not] at hk
  rw [List.all_eq_true] at hcm
  have := hcm i (List.mem_range.2 (by omega))
  rw [hk.1, ho] at this
  simpa using this
 intro f
 induction f with
 | zero =>
  intro listed a w hf inv hC h
  exfalso
  have h1 := inv.tail t (Nat.le_refl _) hn
  have h2 : t < listed.size := by rw [inv.size]; exact hn
  have h3 : listed[t] = false := by simpa [Array.getD_eq_getD_getElem?, h2] using h1
  have h4 : false ∈ listed.toList := by rw [<- h3]; simp
  have := List.count_pos_iff.2 h4
  omega
 | succ f ih =>
  intro listed a w hf inv hC h
  by_cases hall : ∀ i, i < t -> listed.getD i false = true
  ·have hcan : listed = canonL t ops.size := by
    apply Array.ext
    ·rw [inv.size]; simp [canonL]; omega
    ·intro i h1 h2
     by_cases hi : i < t
     ·have := hall i hi
      have e : listed[i] = true := by simpa [Array.getD_eq_getD_getElem?, h1] using this
      rw [e]
      simp [canonL, hi, List.getElem_append]
     ·have := inv.tail i (by omega) (by rw [<- inv.size]; exact h1)
      have e : listed[i] = false := by simpa [Array.getD_eq_getD_getElem?, h1] using this
      rw [e]
      simp [canonL, hi, List.getElem_append]
   have hK : wpList P ops Q (ops.toList.drop t) a w := by
    have : ∀ R : List Nat, (∀ i, i ∈ R -> i < t) -> wpMix P ops C (fun i => l.contains i || decide (t <= i)) (wpList P ops Q (ops.toList.drop t)) listed R a w -> wpList P ops Q (ops.toList.drop t) a w := by
     intro R
     induction R with
     | nil => intro _ h; exact h
     | cons i R ihR =>
      intro hR h
      simp only [wpMix, hall i (hR i List.mem_cons_self), if_true] at h
      exact ihR (fun k hk => hR k (List.mem_cons_of_mem _ hk)) h
    exact this _ (fun i hi => List.mem_range.1 hi) h
   have hlen : (ops.toList.drop t).length = f + 1 := by
    rw [<- hf, hcan]
    simp [canonL, List.count_append, List.count_replicate]
   have hdl : (ops.toList.drop t).length = ops.size - t := by simp
   have := wpAny_of_seq (P := P) (md := md) (Q' := Q) (ops.toList.drop t) t listed a w (fun j => by simp [List.getElem?_drop]) (by rw [hdl, hcan]; exact hseq) hK
   rwa [hlen] at this
  ·have hex : ∃ i, i < t /\ listed.getD i false = false := by
    apply Classical.byContradiction
    intro hno
    refine hall fun i hi => ?_
    cases hg : listed.getD i false with
    | true => rfl
    | false => exact (hno ⟨i, hi, hg⟩).elim
   obtain ⟨i0, hi0, hg0⟩ := hex
   have hun0 : listed.getD i0 true = false := getD_in (by rw [inv.size]; omega) hg0
   have hjt : ∀ j, j ∈ Region.ready md ops listed -> j < t := fun j hj => Nat.lt_of_not_le fun hle => tail_waits hs hc hn inv _ i0 rfl hi0 hun0 j hle hj
   refine ⟨fun hr => ?_, fun j hj => ?_⟩
   ·-- something is ready: the first one that is not listed
    exfalso
    have hlow : ∀ n, n <= t -> ∀ i, i < n -> listed.getD i false = true := by
     intro n
     induction n with
     | zero => intro _ i hi; omega
     | succ n ihn =>
      intro hn' i hi
      by_cases hin : i < n
      ·exact ihn (by omega) i hin
      ·obtain rfl : i = n := by omega
       cases hg : listed.getD i false with
       | true => rfl
       | false =>
        exfalso
        have hm : i ∈ Region.ready md ops listed := by
         rw [mem_ready]
         have his : i < ops.size := by omega
         refine ⟨getD_in (by rw [inv.size]; exact his) hg, ops[i], by simp [his], fun e he hb => ?_⟩
         exact ihn (by omega) e.on (earlyB_out hear i ops[i] (by simp [his]) e he hb)
        rw [hr] at hm
        cases hm
    have := hlow t (Nat.le_refl _) i0 hi0
    rw [hg0] at this
    cases this
   ·have hj' := hjt j hj
    obtain ⟨hun, oj, hoj, hdep⟩ := mem_ready.1 hj
    have hjs : j < listed.size := by rw [inv.size]; omega
    have hjl : listed.getD j false = false := getD_both hun
    have hwt : ∀ i, listed.getD i false = false -> Region.waitsFor md ops j i = false := fun i hi => by
     cases hw : Region.waitsFor md ops j i with
     | false => rfl
     | true =>
      obtain ⟨o', ho', e, he, hb, hon⟩ := Region.waitsFor_spec hw
      obtain rfl : o' = oj := Option.some.inj (ho'.symm.trans hoj)
      have := hdep e he hb
      rw [hon, hi] at this
      cases this
    have hp := pull (P := P) (ops := ops) (C := C) (ks := fun i => l.contains i || decide (t <= i)) (K := wpList P ops Q (ops.toList.drop t)) hsel' hcalm hoj hjl hjs (List.range t) List.pairwise_lt_range (List.mem_range.2 hj')
     (fun i hi hij hil => by
       have his : i < ops.size := by omega
       exact ⟨ops[i], by simp [his], apartAll_out hap hij (by simp [his]) hoj (hwt i hil)⟩)
     (fun hk i hi hij hil => by
       simp only [Bool.or_eq_true, List.contains_iff_mem, decide_eq_true_eq] at hk
       rw [Bool.or_eq_false_iff, decide_eq_false_iff_not]
       refine ⟨?_, by omega⟩
       cases hci : l.contains i with
       | false => rfl
       | true =>
        have := links_order inv hl i j (by simpa using hci) (by rcases hk with hk | hk; exact hk; omega) hij (.inl hj)
        rw [hil] at this
        cases this) a w hC h
    have hcs : (listed.setIfInBounds j true).toList.count false = f := by
     have h3 : listed[j] = false := by simpa [Array.getD_eq_getD_getElem?, hjs] using hun
     have := cnt_set listed.toList j (by simp [hjs, h3])
     rw [Array.toList_setIfInBounds]
     omega
    by_cases hk : (l.contains j || decide (t <= j)) = true
    ·rw [if_pos hk] at hp
     exact wpOp_stop (wpOp_mono (fun a' w' hh => ih _ a' w' hcs (inv.set hj hj') hh.1 hh.2) hp)
    ·rw [if_neg hk] at hp
     refine wpOp_mono ?_ (wpOp_calm hoj (hcalm j oj hoj (by simpa using hk)) hC hp)
     rintro a' w' ⟨rfl, hh⟩
     exact ih _ a' _ hcs (inv.set hj hj') hC hh
def wpSegs (P : Program) (ops : Array Oper) (C : World -> Prop) (Q : Exit -> Act -> World -> Prop) (r : Nat) : List Nat -> List Oper -> Act -> World -> Prop
 | [], l, a, w => wpQuiet P ops C (fun a' => wpList P ops Q (l.drop r) a' w) (l.take r) a
 | m :: ms, l, a, w => wpQuiet P ops C (fun a' => wpList P ops (segPost C (wpSegs P ops C Q r ms (l.drop (m + 1)))) ((l.drop m).take 1) a' w) (l.take m) a
theorem seg_next {next : Act -> World -> Prop} {a : Act} {w : World} (hC : C w) (h : next a w) : segPost C next .normal a w := ⟨hC, h⟩
def chainAt : Nat -> List Nat -> List Nat
 | _, [] => []
 | p, m :: ms => (p + m) :: chainAt (p + m + 1) ms
def endAt (r : Nat) : Nat -> List Nat -> Nat
 | p, [] => p + r
 | p, m :: ms => endAt r (p + m + 1) ms
theorem endAt_le (r : Nat) : ∀ (ms : List Nat) (p : Nat), p <= endAt r p ms := by
 intro ms
 induction ms with
 | nil => intro p; exact Nat.le_add_right _ _
 | cons m ms ih => intro p; have := ih (p + m + 1); simp only [endAt]; omega
theorem chainAt_ge : ∀ (ms : List Nat) (p i : Nat), i ∈ chainAt p ms -> p <= i := by
 intro ms
 induction ms with
 | nil => intro p i h; cases h
 | cons m ms ih =>
  intro p i h
  rcases List.mem_cons.1 h with rfl | h
  ·exact Nat.le_add_right _ _
  ·have := ih _ _ h; omega
theorem quiet_mix {ks : Nat -> Bool} {K : Act -> World -> Prop} {listed : Array Bool} {N : Act -> Prop} {w : World} {R : List Nat} (hlist : ∀ i, listed.getD i false = false) :
 ∀ (m p : Nat) (a : Act), p + m <= ops.size -> (∀ i, p <= i -> i < p + m -> ks i = false) -> (∀ a, N a -> wpMix P ops C ks K listed R a w) -> wpQuiet P ops C N ((ops.toList.drop p).take m) a ->
  wpMix P ops C ks K listed (List.range' p m ++ R) a w := by
 intro m
 induction m with
 | zero =>
  intro p a _ _ hN h
  simp only [List.take_zero] at h
  exact hN a h
 | succ m ih =>
  intro p a hp hk hN h
  have hps : p < ops.size := by omega
  have e : (ops.toList.drop p).take (m + 1) = ops[p] :: (ops.toList.drop (p + 1)).take m := by
   rw [List.drop_eq_getElem_cons (by simpa using hps), List.take_succ_cons]
   rfl
  rw [e] at h
  rw [List.range'_succ, List.cons_append]
  simp only [wpMix, hlist p, hk p (Nat.le_refl _) (by omega), Bool.false_eq_true, if_false]
  unfold wpQuiet at h
  unfold qOp
  simp only [show ops[p]? = some ops[p] by simp [hps]]
  have ih' : ∀ a, wpQuiet P ops C N ((ops.toList.drop (p + 1)).take m) a -> wpMix P ops C ks K listed (List.range' (p + 1) m ++ R) a w := fun a' h' => ih (p + 1) a' (by omega) (fun i h1 h2 => hk i (by omega) (by omega)) hN h'
  split
  ·rename_i hw
   rw [if_pos hw] at h
   exact Oper.quiet_mono ih' h
  ·rename_i hw
   rw [if_neg hw] at h
   exact ih' _ h
theorem segs_mix {Q : Exit -> Act -> World -> Prop} {ks : Nat -> Bool} {listed : Array Bool} {t : Nat} (r : Nat) (ht : t <= ops.size) (hlist : ∀ i, listed.getD i false = false) :
 ∀ (ms : List Nat) (p : Nat) (a : Act) (w : World), endAt r p ms = t -> (∀ i, p <= i -> i < t -> ks i = (chainAt p ms).contains i) -> wpSegs P ops C Q r ms (ops.toList.drop p) a w ->
  wpMix P ops C ks (wpList P ops Q (ops.toList.drop t)) listed (List.range' p (t - p)) a w := by
 intro ms
 induction ms with
 | nil =>
  intro p a w he hk h
  simp only [endAt] at he
  subst he
  have e : List.range' p (p + r - p) = List.range' p r ++ [] := by simp
  rw [e]
  refine quiet_mix hlist r p a ht (fun i h1 h2 => by rw [hk i h1 h2]; simp [chainAt]) ?_ h
  intro a' h'
  simp only [wpMix]
  rwa [List.drop_drop] at h'
 | cons m ms ih =>
  intro p a w he hk h
  simp only [endAt] at he
  have hle := endAt_le r ms (p + m + 1)
  have e : List.range' p (t - p) = List.range' p m ++ ((p + m) :: List.range' (p + m + 1) (t - (p + m + 1))) := by
   have e1 : t - p = m + (1 + (t - (p + m + 1))) := by omega
   rw [e1, <- List.range'_append_1, <- List.range'_append_1]
   simp
  rw [e]
  refine quiet_mix hlist m p a (by omega) (fun i h1 h2 => ?_) ?_ h
  ·rw [hk i h1 (by omega)]
   simp only [chainAt]
   cases hc : ((p + m) :: chainAt (p + m + 1) ms).contains i with
   | false => rfl
   | true =>
    exfalso
    have hm : i ∈ (p + m) :: chainAt (p + m + 1) ms := by simpa using hc
    rcases List.mem_cons.1 hm with h3 | h3
    ·omega
    ·have := chainAt_ge _ _ _ h3; omega
  ·intro a' h'
   have hps : p + m < ops.size := by omega
   have hkp : ks (p + m) = true := by rw [hk (p + m) (by omega) (by omega)]; simp [chainAt]
   simp only [wpMix, hlist (p + m), hkp, Bool.false_eq_true, if_false, if_true]
   have e2 : ((ops.toList.drop p).drop m).take 1 = [ops[p + m]] := by
    rw [List.drop_drop, List.drop_eq_getElem_cons (by simpa using hps), List.take_succ_cons, List.take_zero]
    rfl
   rw [e2] at h'
   have ih' := fun a w h => ih (p + m + 1) a w he (fun i h1 h2 => by
    rw [hk i (by omega) h2]
    simp only [chainAt, List.contains_cons]
    rw [show (i == p + m) = false by simp; omega]
    rfl) h
   have e3 : (ops.toList.drop p).drop (m + 1) = ops.toList.drop (p + m + 1) := by rw [List.drop_drop]; rfl
   rw [e3] at h'
   unfold wpList at h'
   unfold wpOp
   simp only [show ops[p + m]? = some ops[p + m] by simp [hps]]
   have hfin : ∀ a w, wpList P ops (segPost C (wpSegs P ops C Q r ms (ops.toList.drop (p + m + 1)))) [] a w -> C w /\ wpMix P ops C ks (wpList P ops Q (ops.toList.drop t)) listed (List.range' (p + m + 1) (t - (p + m + 1))) a w := fun a w h => ⟨h.1, ih' a w h.2⟩
   have hlets : LetsOut (segPost C (wpSegs P ops C Q r ms (ops.toList.drop (p + m + 1)))) -> LetsOut stopPost := fun ⟨_, _, h⟩ => (show False from h).elim
   split
   ·rename_i hw
    rw [if_pos hw] at h'
    rcases h' with h' | ⟨h1, h2⟩
    ·refine .inl (Oper.wp_mono hfin ?_)
     unfold Oper.wp at *
     generalize (execOp a'.eval ops[p + m]).run P w = rr at *
     cases rr with
     | ok n w' =>
      cases n <;> simp only [Oper.upon] at h' ⊢ <;> try exact h'
     | halt x w' =>
      cases x <;> simp only [Oper.upon] at h' ⊢
      all_goals (try exact (show False from h').elim)
    ·exact .inr ⟨h1, hlets h2⟩
   ·rename_i hw
    rw [if_neg hw] at h'
    exact hfin _ _ h'
theorem wp_region_mix {id : Nat} {Q : Exit -> Act -> World -> Prop} {a : Act} {w : World} {l : List Oper} (r : Nat) (ms : List Nat) (hm : P.follows .mixedOrders = true) (hB : mixB .any l.toArray (endAt r 0 ms) (chainAt 0 ms) = true)
 (hend : endAt r 0 ms <= l.length) (h : wpSegs P l.toArray (fun w' => ∃ g, w' = grow w g) Q r ms l a w.drew) : (Code.region id l.toArray true).wp P Q a w := by
 refine wp_region_any hm ?_
 have hin : ∀ i, (Array.replicate l.toArray.size false).getD i false = false := fun i => getD_replicate_false _ _
 refine mix_any (C := fun w' => ∃ g, w' = grow w g) hB _ _ a w.drew (by simp [List.count_replicate]) ⟨by simp, fun j oj _ hl => (by rw [hin] at hl; cases hl), fun t _ ht => getD_in (by simpa using ht) (hin t)⟩ ⟨w.drew, (grow_eq (Below.drew (Below.refl _ _))).symm⟩ ?_
 have := segs_mix (P := P) (ops := l.toArray) (C := fun w' => ∃ g, w' = grow w g) (Q := Q) (ks := fun i => (chainAt 0 ms).contains i || decide (endAt r 0 ms <= i)) (listed := Array.replicate l.toArray.size false) (t := endAt r 0 ms) r (by simpa using hend) hin ms 0 a w.drew rfl
  (fun i _ h2 => by simp [Nat.not_le.2 h2]) (by simpa using h)
 rwa [Nat.sub_zero, <- List.range_eq_range'] at this
theorem grow_to {w w' : World} (h : Below w.heap.size w w') : ∃ g, w' = grow w g := ⟨w', (grow_eq h).symm⟩
end
theorem Cells.fore {w : World} {B : Nat} {A : Option Addr} {xs ys : List Value} (h : Cells w B A (xs ++ ys)) : Cells w B A xs := by
 rcases Nat.eq_zero_or_pos xs.length with h0 | h0
 ·exact .inl (List.length_eq_zero_iff.1 h0)
 ·obtain ⟨b, o, he, hb, hc⟩ := h.at_ (by simp; omega)
  exact .inr ⟨b, o, he, hb, fun j v hv => hc j v (by
   obtain ⟨hj, _⟩ := List.getElem?_eq_some_iff.1 hv
   rw [List.getElem?_append_left hj]; exact hv)⟩
theorem Cells.upto {α : Type} {w : World} {B : Nat} {A : Option Addr} {enc : α -> List Value} {l : List α} (h : Cells w B A (l.flatMap enc)) (k : Nat) : Cells w B A ((l.take k).flatMap enc) := by
 rw [<- List.take_append_drop k l, List.flatMap_append] at h
 exact h.fore

theorem rsz_any (n : Int) (w : World) (h0 : 0 <= n) (h1 : n <= 1152921504606846976) :
 Calls Tryz.prog 78 #[.int .i64 n] w fun e w' => e = .returned (.int .u64 n) /\ w = w' := by
 have e := PlainAid.u64_nonneg h0 (by omega)
 go_enter Tryz.func78, Tryz.ntmps78
 go_wp2
 go_ret
 exact ⟨rfl, rfl⟩
def gcdI (a b : Int) : Int := ((Nat.gcd a.toNat b.toNat : Nat) : Int)
theorem gcd_step (x y : Nat) (hy : 0 < y) : Nat.gcd y (x % y) = Nat.gcd x y := by
 rw [Nat.gcd_comm x y, Nat.gcd_rec y x, Nat.gcd_comm]
theorem gcd_any (a b : Nat) (w : World) (ha : a <= 1152921504606846976) (hb : b <= 1152921504606846976) :
 Calls Tryz.prog 79 #[.int .u64 a, .int .u64 b] w fun e w' => e = .returned (.int .u64 (Nat.gcd a b : Nat)) /\ Below w.heap.size w w' := by
 go_enter Tryz.func79, Tryz.ntmps79
 go_wp2
 go_loopw [0, 1] (fun u v wr => ∃ x y : Nat, x <= 1152921504606846976 /\ y <= 1152921504606846976 /\ u = .int .u64 x /\ v = .int .u64 y /\ Hid (Nat.gcd x y = Nat.gcd a b) /\ Below w.heap.size w wr) (fun _ v _ => (intOf v).toNat)
 case atStart => exact ⟨a, b, ha, hb, rfl, rfl, lh rfl, Below.refl _ _⟩
 case round =>
  obtain ⟨x, y, hx, hy, rfl, rfl, hg, hbr⟩ := hrel
  by_cases h0 : y = 0
  ·have hz : (((y : Nat) : Int) != 0) = false := by simp [h0]
   have hg2 := lh h0
   clear h0
   go_wp2
   go_ret
   refine ⟨?_, bel⟩
   have h := hg.out
   rw [hg2.out, Nat.gcd_zero_right] at h
   simp [h]
  ·have hz : (((y : Nat) : Int) != 0) = true := by simp; omega
   have hz' : (((y : Nat) : Int) == 0) = false := by simp; omega
   have hlt := Nat.mod_lt x (show 0 < y by omega)
   have hm : ((x : Int) % (y : Int)) = ((x % y : Nat) : Int) := by omega
   go_wp2_with fail
   go_quiet (fail)
   go_wp2
   go_roundw
   case rel => exact ⟨y, x % y, hy, by omega, rfl, rfl, lh ((gcd_step x y (by omega)).trans hg.out), bel⟩
   case measure => simp [intOf]; omega
theorem signed_any (a b : Int) (w : World) (ha0 : 0 <= a) (ha : a <= 1152921504606846976) (hb0 : 0 <= b) (hb : b <= 1152921504606846976) :
 Calls Tryz.prog 80 #[.bool false, .int .u64 a, .int .u64 b] w fun e w' => e = .returned (.tuple #[.agg #[.int .i64 a, .int .i64 b], .int .i64 0]) /\ Below w.heap.size w w' := by
 go_enter Tryz.func80, Tryz.ntmps80
 go_wp2
 go_returns
 exact ⟨rfl, bel⟩
theorem gcdI_pos {n d : Int} (h : 1 <= d) : 1 <= gcdI n d := by
 have : 0 < Nat.gcd n.toNat d.toNat := Nat.gcd_pos_of_pos_right _ (by omega)
 unfold gcdI
 omega
theorem gcdI_le {n d : Int} (h : 1 <= d) : gcdI n d <= d := by
 have := Nat.gcd_le_right n.toNat (show 0 < d.toNat by omega)
 unfold gcdI
 omega
theorem div_bd {n g : Int} (h0 : 0 <= n) (hg : 1 <= g) : 0 <= n / g /\ n / g <= n := ⟨Int.ediv_nonneg h0 (by omega), Int.ediv_le_self _ h0⟩
set_option maxRecDepth 10000 in
set_option maxHeartbeats 1000000 in
theorem make_any (n d : Int) (w : World) (h0 : 0 <= n) (h1 : n <= 1152921504606846976) (hd0 : 1 <= d) (hd : d <= 1152921504606846976) :
 Calls Tryz.prog 50 #[.int .i64 n, .int .i64 d] w fun e w' => e = .returned (.tuple #[.agg #[.int .i64 (n / gcdI n d), .int .i64 (d / gcdI n d)], .int .i64 0]) /\ Below w.heap.size w w' := by
 have g1 := gcdI_pos (n := n) hd0
 have g2 := gcdI_le (n := n) hd0
 have gz : (gcdI n d == 0) = false := by simp; omega
 have q1 := div_bd h0 g1
 have q2 := div_bd (show 0 <= d by omega) g1
 have dz : (d == 0) = false := by simp; omega
 have hG : ∀ w : World, Calls Tryz.prog 79 #[.int .u64 n, .int .u64 d] w fun e w' => e = .returned (.int .u64 (gcdI n d)) /\ Below w.heap.size w w' := fun w => by
  have := gcd_any n.toNat d.toNat w (by omega) (by omega)
  rw [Int.toNat_of_nonneg h0, Int.toNat_of_nonneg (by omega)] at this
  exact this
 have HG := lh hG
 clear hG
 have hn : decide (n < 0) = false := by simp; omega
 have hdn : decide (d < 0) = false := by simp; omega
 by_cases hz : n = 0
 ·have nz : (n != 0) = false := by simp [hz]
  have HZ := lh hz
  clear hz
  go_enter Tryz.func50, Tryz.ntmps50
  go_wp2_with (first
   | (go_at_call 78; (with_reducible refine (rsz_any _ _ (by omega) (by omega)).mono ?_); rintro e w' ⟨rfl, rfl⟩)
   | (go_at_call 79; (with_reducible refine (HG.out _).mono ?_); rintro e w1 ⟨rfl, hbw1⟩; obtain ⟨hcw1, hfw1⟩ := bcell hbw1; have hzw1_0 : w.heap.size < w1.heap.size := lt_via hbw1 sz))
  refine wp_region_grow_tail 18 (by kernel_rfl) (by kernel_rfl) ?_
  simp only [gt1, gt2, gt3, gt4]
  repeat (go_big_quiet_step ((go_at_call 80; exact grow_of (signed_any _ _ _ q1.1 (by omega) q2.1 (by omega)))))
  all_goals (refine wpQuiet_nil ?_; intro w2 hbw2; obtain ⟨hcw2, hfw2⟩ := bcell hbw2; have hzw2_0 : w.heap.size < w2.heap.size := lt_via hbw2 sz)
  go_wp2
  exact bodyPost_ret (v := .tuple #[.agg #[.int .i64 (n / gcdI n d), .int .i64 (d / gcdI n d)], .int .i64 0]) (by simp [results, Tryz.results50, go_sem, *]) rfl ⟨rfl, bel⟩
 ·have nz : (n != 0) = true := by simpa using hz
  go_enter Tryz.func50, Tryz.ntmps50
  go_wp2_with (first
   | (go_at_call 78; (with_reducible refine (rsz_any _ _ (by omega) (by omega)).mono ?_); rintro e w' ⟨rfl, rfl⟩)
   | (go_at_call 79; (with_reducible refine (HG.out _).mono ?_); rintro e w1 ⟨rfl, hbw1⟩; obtain ⟨hcw1, hfw1⟩ := bcell hbw1; have hzw1_0 : w.heap.size < w1.heap.size := lt_via hbw1 sz))
  refine wp_region_grow_tail 18 (by kernel_rfl) (by kernel_rfl) ?_
  simp only [gt1, gt2, gt3, gt4]
  repeat (go_big_quiet_step ((go_at_call 80; exact grow_of (signed_any _ _ _ q1.1 (by omega) q2.1 (by omega)))))
  all_goals (refine wpQuiet_nil ?_; intro w2 hbw2; obtain ⟨hcw2, hfw2⟩ := bcell hbw2; have hzw2_0 : w.heap.size < w2.heap.size := lt_via hbw2 sz)
  go_wp2
  exact bodyPost_ret (v := .tuple #[.agg #[.int .i64 (n / gcdI n d), .int .i64 (d / gcdI n d)], .int .i64 0]) (by simp [results, Tryz.results50, go_sem, *]) rfl ⟨rfl, bel⟩
end Go.Proofs.YtmfpbafpnoomeaaGreat
