/- A loop over an iterator that lays memory for each round: a law of our own. The iterator says by R what lies ready when it asks for a round; a round keeps Kp; behind the iterator R still holds of the last round. Contract: points of the reference for layer 16. Contracts of the reference for layers 14 and 16: Valid (14), run where it says no. A region that draws its order, whose operations yield values that only have a property (addresses of memory just made): in whatever order they come. A region that draws its order, some of whose operations only read, and the others make memory or call, one behind the other: walked in the order of the text. Contracts of the reference for layer 16: run, Valid. Contracts of the reference for layer 16: run for every run, Valid, Place, Bar. Contracts of the reference for layer 16: Bar, Points. Two small laws on blocks and guarded loads. -/
import Derived.RangeFuncNested
import Derived.RangeFuncBound
import Derived.RangeFuncCalls
import Derived.RangeFuncLeaves
import Derived.RangeFuncFrom
import Derived.Test.YtffkmgjmlahfpaaGreatRow
import Derived.Test.YtffkmgjmlahfpaaGreatZD
import Derived.Test.YtffkmgjmlahfpaaGreatZE
import Derived.Test.YtffkmgjmlahfpaaGreatTail
import Derived.Deep.MidRow
import Derived.Test.YtffkmgjmlahfpaaGreatLook
import Derived.Test.YtffkmgjmlahfpaaGreatOver
set_option linter.unusedVariables false
set_option linter.unusedSimpArgs false
namespace Go.Proofs.YtffkmgjmlahfpaaGreat
open Go.RowKit
section
variable {F : Fence} {n : Nat} {P : Program}
/-- A word on worlds that hangs on the blocks below B alone. -/
def AbidesB {β : Type} (B : Nat) (J : β → World → Prop) : Prop := ∀ s A C, J s A → Below B A C → J s C
/-- The iterator's word. -/
def SeqLaid {α : Type} (F : Fence) (n : Nat) (P : Program) (g : Nat) (lb : Array Value) (encs : α → Array Value) (Kp : World → World → Prop) (R : List α → α → World → Prop) (S : List α → Prop) (w : World) : Prop :=
  ∀ (l : Nat) (J Jx : List α → World → Prop) (W : World), Below w.heap.size w W → AbidesB W.heap.size J → AbidesB W.heap.size Jx →
    (∀ pre x V, J pre V → R pre x V → YieldAt F (n - 1) P l (encs x) V fun e V' => Kp V V' ∧ ((e = .returned (.bool true) ∧ J (pre ++ [x]) V') ∨ (e = .returned (.bool false) ∧ Jx (pre ++ [x]) V'))) →
    J [] W →
    CallsIn F n P g (#[.func (.yield l) #[] #[]] ++ lb) W fun e W' => (∃ v, e = .returned v) ∧ ((∃ xs, S xs ∧ J xs W') ∨ (∃ pre x, Jx (pre ++ [x]) W' ∧ R pre x W'))
/-- How a round may be left. -/
def laidPost {α : Type} (Kp : World → World → Prop) (I : List α → World → Prop) (Ix : Code → List α → World → Prop) (xs : List α) (W : World) (e : Exit) (_ : Act) (W' : World) : Prop :=
  KeepsOthers W W' ∧ Kp W W' ∧ match e with
    | .normal => I xs W'
    | .ret => Ix .ret xs W'
    | .exit id => Ix (.exit id) xs W'
    | .goto t => Ix (.goto t) xs W'
    | _ => False
theorem wpIn_rangeFunc_laid {α : Type} {g : Operand} {ps : Array Tmp} {assign body : Code} {Q : Exit → Act → World → Prop} {a : Act} {w : World}
    (hro : F.round = none) (h1 : 1 ≤ n) {gf : Nat} {lb : Array Value} (hg : a.eval g = .func (.func gf) #[] lb) (hFg : F.fn gf) (eg : ∀ args w, (callFunc gf args).run P w = .ok (.enter gf args) w)
    {encs : α → Array Value} {Kp : World → World → Prop} {R : List α → α → World → Prop} {S : List α → Prop} {w0 : World} (hseq : SeqLaid F (n - 1) P gf lb encs Kp R S w0)
    (hKt : ∀ {A B C : World}, Kp A B → Kp B C → Kp A C) (hKb : ∀ (W : World) (l : Nat) (o o' : Obj), w.heap.size ≤ l → W.heap[l]? = some o → o.isCells = false → o.isWalk = false → Kp W (W.putObj l o'))
    (hRk : ∀ pre x V V', R pre x V → (∀ (l : Nat) (o o' : Obj), w.heap.size ≤ l → V.heap[l]? = some o → o.isCells = false → V' = V.putObj l o' → R pre x V'))
    (hb0 : Below w0.heap.size w0 w) (hps : ∀ x, (encs x).size = ps.size)
    (I : List α → World → Prop) (Ix : Code → List α → World → Prop) (hI : AbidesB w.heap.size I) (hIx : ∀ c, AbidesB w.heap.size (Ix c)) (h0 : I [] w) (a₁ : α → Act)
    (hassign : ∀ (l : Nat) (x : α) (W : World) (K : Act → World → Prop), K (a₁ x) W →
      assign.wpIn (F.inRound l) (n - 1 - 1) P (Exit.then K (fun _ _ _ => False)) { tmps := (ps.zip (encs x)).foldl (fun t (p, v) => t.setIfInBounds p v) a.tmps, defers := [] } W)
    (hbody : ∀ (l : Nat) (pre : List α) (x : α) (W : World), I pre W → R pre x W → body.wpIn (F.inRound l) (n - 1 - 1) P (laidPost Kp I Ix (pre ++ [x]) W) (a₁ x) W)
    (hdone : ∀ (D : Nat) (xs : List α) (W : World), w.heap.size ≤ D → S xs → I xs W → W.heap[D]? = some (.deferred (some [])) → Q .normal { a with defers := { target := .collected D, args := #[] } :: a.defers } W)
    (hstop : ∀ (D : Nat) (c : Code) (pre : List α) (x : α) (W : World), w.heap.size ≤ D → Ix c (pre ++ [x]) W → R pre x W → W.heap[D]? = some (.deferred (some [])) → c.wpIn F n P Q { a with defers := { target := .collected D, args := #[] } :: a.defers } W) :
    (Code.rangeFunc g ps assign body).wpIn F n P Q a w := by
  refine wpIn_rangeFunc fun fn hfn => ?_
  rw [hro]
  -- the loop's record, by its state and the jump that waits; its block, and the block of the deferred calls
  obtain ⟨rc, hrc⟩ : ∃ rc : LoopState → Option Code → Loop, rc = fun st pe => { state := st, pending := pe, fn, tmps := a.tmps, params := ps, assign, body, defers := w.heap.size } := ⟨_, rfl⟩
  obtain ⟨L, hL⟩ : ∃ L, L = w.heap.size + 1 := ⟨_, rfl⟩
  obtain ⟨V, hV⟩ : ∃ V, V = (w.alloc (.deferred (some []))).alloc (.loop (rc .ready none)) := ⟨_, rfl⟩
  have hbooks : V.heap[L]? = some (.loop (rc .ready none)) ∧ V.heap[w.heap.size]? = some (.deferred (some [])) := by
    rw [hV, hL]
    refine ⟨?_, (Below.heap_alloc _ _ _ (by simp)).trans (World.alloc_heap_new w _)⟩
    have := World.alloc_heap_new (w.alloc (.deferred (some []))) (.loop (rc .ready none))
    rwa [World.size_alloc] at this
  have hIV : I [] V := by rw [hV]; exact hI _ _ _ h0 (((Below.refl _ w).alloc (Nat.le_refl _) _).alloc (by simp) _)
  have hbV : Below w0.heap.size w0 V := by
    rw [hV]
    exact hb0.trans ((((Below.refl _ w).alloc (Nat.le_refl _) _).alloc (by simp) _).mono hb0.size)
  have hVs : V.heap.size = L + 1 := by rw [hV, hL]; simp
  refine ⟨L, [{ target := .collected w.heap.size, args := #[] }], V, { target := .fn (.func gf) lb, args := #[.func (.yield L) #[] #[]] }, V, gf, #[.func (.yield L) #[] #[]] ++ lb, V, ?_, ?_, ?_, ?_, fun _ => h1, ?_⟩
  · rw [hV, hrc, hL]
    exact run_enterLoop_outer _ _ _ _ _
  · simp only [resolve, hg]
    simp [go_sem]
  · intro f' hf'
    simp [Target.leads] at hf'
    subst hf'
    exact hFg
  · simp [invoke, go_sem, eg]
  have hpb : ∀ (U : World) (o : Obj), L < U.heap.size → Below w.heap.size U (U.putObj L o) := fun U o hlt => ⟨rfl, rfl, rfl, by simp, fun k hk => World.putObj_heap_other (by omega)⟩
  have hput : ∀ {U : World} {o : Obj} {r : Nat}, w.heap.size ≠ r → U.heap[w.heap.size]? = some (.deferred (some [])) → (U.putObj r o).heap[w.heap.size]? = some (.deferred (some [])) := fun hne h => (World.putObj_heap_other hne).trans h
  refine (hseq L (fun pre U => I pre U ∧ U.heap[L]? = some (.loop (rc .ready none)) ∧ U.heap[w.heap.size]? = some (.deferred (some [])))
    (fun pre U => ∃ c, Ix c pre U ∧ U.heap[L]? = some (.loop (rc .done (some c))) ∧ U.heap[w.heap.size]? = some (.deferred (some []))) V hbV ?_ ?_ ?_ ⟨hIV, hbooks.1, hbooks.2⟩).mono ?_
  · rintro s A C ⟨hi, hl, hd⟩ hb
    exact ⟨hI s A C hi (hb.mono (by omega)), (hb.block L (by omega)).trans hl, (hb.block w.heap.size (by omega)).trans hd⟩
  · rintro s A C ⟨c, hi, hl, hd⟩ hb
    exact ⟨c, hIx c s A C hi (hb.mono (by omega)), (hb.block L (by omega)).trans hl, (hb.block w.heap.size (by omega)).trans hd⟩
  · -- a round
    rintro pre x U ⟨hi, hl, hd⟩ hR
    have hy := run_yield (P := P) (args := encs x) hl (by rw [hrc]; exact hps x)
    rw [hrc] at hy
    refine ⟨fn, _, assign, body, hy, roundIn_of_wpIn hfn (hassign _ x U _ ⟨_, run_beginRound hl (by rw [hrc]), ?_⟩)⟩
    have hlt : L < U.heap.size := (Array.getElem?_eq_some_iff.1 hl).1
    obtain ⟨U1, hU1⟩ : ∃ U1, U1 = U.putObj L (.loop { rc .ready none with state := .busy }) := ⟨_, rfl⟩
    have hl1 : U1.heap[L]? = some (.loop { rc .ready none with state := .busy }) := by rw [hU1]; exact World.putObj_heap_same hlt
    have hd1 : U1.heap[w.heap.size]? = some (.deferred (some [])) := by rw [hU1]; exact hput (by omega) hd
    have hi1 : I pre U1 := by rw [hU1]; exact hI _ _ _ hi (hpb _ _ hlt)
    have hk1 : Kp U U1 := by rw [hU1]; exact hKb _ _ _ _ (by omega) hl rfl rfl
    have hR1 : R pre x U1 := hRk pre x U U1 hR L _ _ (by omega) hl rfl hU1
    rw [← hU1]
    refine wpIn_mono (hbody _ pre x _ hi1 hR1) ?_
    rintro e a3 U3 ⟨hk3, hkp3, hx⟩
    -- the round's end
    have hl3 := hk3.same _ _ hl1 rfl
    have hd3 := hk3.same _ _ hd1 rfl
    have hend := fun (j : Option Code) => run_endRound (P := P) j hl3
    have hlt3 : L < U3.heap.size := (Array.getElem?_eq_some_iff.1 hl3).1
    have hkk : ∀ o', Kp U (U3.putObj L o') := fun o' => hKt (hKt hk1 hkp3) (hKb _ _ _ _ (by omega) hl3 rfl rfl)
    rw [hrc] at hend
    cases e with
    | normal => exact ⟨_, _, hend none, hkk _, .inl ⟨rfl, hI _ _ _ hx (hpb _ _ hlt3), by rw [hrc]; exact World.putObj_heap_same hlt3, hput (by omega) hd3⟩⟩
    | ret => exact ⟨_, _, hend (some .ret), hkk _, .inr ⟨rfl, .ret, hIx _ _ _ _ hx (hpb _ _ hlt3), by rw [hrc]; exact World.putObj_heap_same hlt3, hput (by omega) hd3⟩⟩
    | exit id => exact ⟨_, _, hend (some (.exit id)), hkk _, .inr ⟨rfl, .exit id, hIx _ _ _ _ hx (hpb _ _ hlt3), by rw [hrc]; exact World.putObj_heap_same hlt3, hput (by omega) hd3⟩⟩
    | goto t => exact ⟨_, _, hend (some (.goto t)), hkk _, .inr ⟨rfl, .goto t, hIx _ _ _ _ hx (hpb _ _ hlt3), by rw [hrc]; exact World.putObj_heap_same hlt3, hput (by omega) hd3⟩⟩
    | panic ch => exact hx.elim
    | outgrown => exact hx.elim
  · -- behind the iterator
    rintro e U ⟨⟨v, rfl⟩, (⟨xs, hS, hi, hl, hd⟩ | ⟨pre, x, ⟨c, hi, hl, hd⟩, hR⟩)⟩
    · have he := run_endLoop (P := P) hl (by rw [hrc]; simp)
      rw [hrc] at he
      exact ⟨none, _, he, hdone _ xs _ (Nat.le_refl _) hS (hI _ _ _ hi (hpb _ _ (Array.getElem?_eq_some_iff.1 hl).1)) (hput (by omega) hd)⟩
    · have he := run_endLoop (P := P) hl (by rw [hrc]; simp)
      rw [hrc] at he
      exact ⟨some c, _, he, hstop _ c pre x _ (Nat.le_refl _) (hIx c _ _ _ hi (hpb _ _ (Array.getElem?_eq_some_iff.1 hl).1)) (hRk pre x U _ hR L _ _ (by omega) hl rfl rfl) (hput (by omega) hd)⟩
end
end Go.Proofs.YtffkmgjmlahfpaaGreat
set_option linter.unusedVariables false
set_option linter.unusedSimpArgs false
namespace Go.Proofs.YtffkmgjmlahfpaaGreat
open Go.RowKit
theorem path_in {b : Bar} (h : S.bar b = true) {i : Nat} {p : Pt} (hp : (S.path b)[i]? = some p) : S.near1 p 1048576 = true := by
  obtain ⟨hi, rfl⟩ := List.getElem?_eq_some_iff.1 hp
  exact near_in (path_near h) hi
theorem laidPath_len (b : Bar) (r : Rn) (k : Nat) : (S.laidPath b r k).length = (S.legsOf b.code).length + 1 := by
  unfold S.laidPath; rw [List.length_map, path_len]
theorem plus_times (a s : Pt) (k : Int) : S.padd a (S.times k s) = S.plus a s k := rfl
theorem placed_padd (x y : Int) (a p : Pt) : S.padd a (S.image x y p) = S.placed x y a p := rfl
theorem times_lim {n : Int} {p : Pt} (hn : 0 ≤ n ∧ n ≤ 1000) (hp : S.near1 p 2097152 = true) : S.near1 (S.times n p) 2097152000 = true := by
  obtain ⟨hx, hy, hz⟩ := near1_out hp
  have hm : ∀ q : Int, -2097152 ≤ q ∧ q ≤ 2097152 → -2097152000 ≤ n * q ∧ n * q ≤ 2097152000 := fun q hq => by
    have h1 : n * q ≤ n * 2097152 := Int.mul_le_mul_of_nonneg_left hq.2 hn.1
    have h2 : n * (-2097152) ≤ n * q := Int.mul_le_mul_of_nonneg_left hq.1 hn.1
    omega
  have a1 := hm _ hx
  have a2 := hm _ hy
  have a3 := hm _ hz
  rw [show S.times n p = ⟨n * p.x, n * p.y, n * p.z⟩ from rfl]
  simp only [S.near1, Bool.and_eq_true, decide_eq_true_eq]
  generalize n * p.x = u1 at *
  generalize n * p.y = u2 at *
  generalize n * p.z = u3 at *
  omega
theorem Exc.of_below1 {M : List Nat} {W w : World} (h : Below W.heap.size W w) : Exc M W w := ⟨h.os, h.tape, h.output, h.size, fun k hk _ => h.block k hk⟩
set_option maxRecDepth 20000 in
set_option maxHeartbeats 4000000 in
theorem rpoints_any (b : Bar) (r : Rn) (k0 : Nat) (A : Option Addr) (n c : Nat) (B : Nat) (w : World) (hB : B ≤ w.heap.size) (hA : BarAt w B A n b) (h : S.bar b = true) (ht : S.turn r.tx r.ty = true) (ha : S.near1 r.at_ 1048576 = true)
    (hk0 : k0 ≤ 1000) (hst : 0 < k0 → S.near1 r.step 2097152 = true) (L : Nat) (hL : (S.legsOf b.code).length = L) :
    Calls Tryz.prog 179 #[barV b A n c, rnV r, .int .i64 k0] w (GivesOne 87 3 (L + 1) ((S.laidPath b r k0).flatMap ptC) w) := by
  have HP := Lib.hid (fun (W : World) (hw : B ≤ W.heap.size) (hh : BarAt W B A n b) => rpath_yes b A n c B W hw hh h L hL)
  have HA := Lib.hid hA
  have hl6 := legs_len b.code
  rw [hL] at hl6
  have HLP := Lib.hid (show (S.path b).length = L + 1 by rw [path_len, hL])
  have HPI := Lib.hid (fun (i : Nat) (p : Pt) (hp : (S.path b)[i]? = some p) => path_in h hp)
  have HIM := Lib.hid (fun (p : Pt) (hp : S.near1 p 1048576 = true) (w : World) => rimage_any r.tx r.ty ht p hp w)
  have hAT : S.near1 (S.plus r.at_ r.step k0) 2098200576 = true := by
    by_cases hk : 0 < k0
    · have := padd_near ha (times_lim (n := k0) (by omega) (hst hk))
      exact near1_mono0 this (by omega)
    · have : k0 = 0 := by omega
      subst this
      have e : S.plus r.at_ r.step ((0 : Nat) : Int) = r.at_ := by simp [S.plus]
      rw [e]
      exact near1_mono0 ha (by omega)
  have HPL := Lib.hid (fun (p : Pt) (hp : S.near1 p 1048576 = true) (w : World) => rplus_any (S.plus r.at_ r.step k0) (S.image r.tx r.ty p) (near1_mono0 (padd_near hAT (image_near ht hp)) (by omega)) w)
  have HLD := Lib.hid (show S.laidPath b r k0 = (S.path b).map (fun p => S.padd (S.plus r.at_ r.step k0) (S.image r.tx r.ty p)) from rfl)
  have HTM := Lib.hid (fun (hk : 0 < k0) (w : World) => rtimes16_any r.step k0 (near1_mono0 (times_lim (n := k0) (by omega) (hst hk)) (by omega)) w)
  have HAD := Lib.hid (fun (hk : 0 < k0) (w : World) => rplus_any r.at_ (S.times k0 r.step) (near1_mono0 (padd_near ha (times_lim (n := k0) (by omega) (hst hk))) (by omega)) w)
  have HZ := Lib.hid (fun (hk : ¬ 0 < k0) => show S.plus r.at_ r.step k0 = r.at_ by
    have : k0 = 0 := by omega
    subst this
    simp [S.plus])
  clear hA h ht ha hst hL hAT
  rw [HLD.out]
  unfold ptV at HIM HPL HTM HAD
  unfold turnV at HIM
  unfold barV at HP
  unfold barV rnV
  go_enter Tryz.func179, Tryz.ntmps179
  go_upto_region 3 with (first
    | (go_at_call 234; (with_reducible refine (HP.out _ (size_via hB (by repeat (first | exact Below.refl _ _ | assumption | refine ba_alloc ?_ _ | refine ba_drew ?_ | refine ba_drewN ?_ _ | refine ba_via (by assumption) ?_ | (refine ba_set ?_ ?_ _; rotate_left; (first | omega | (simp; omega) | simp))))) (HA.out.at_ hB (by repeat (first | exact Below.refl _ _ | assumption | refine ba_alloc ?_ _ | refine ba_drew ?_ | refine ba_drewN ?_ _ | refine ba_via (by assumption) ?_ | (refine ba_set ?_ ?_ _; rotate_left; (first | omega | (simp; omega) | simp)))))).mono ?_); rintro e w1 ⟨Aw1, cw1, rfl, how1, hbw1⟩; obtain ⟨hcw1, hfw1⟩ := bcell hbw1; have hzw1_0 : w.heap.size < w1.heap.size := lt_via hbw1 (by first | omega | (simp; done) | (simp; omega)); have hzw1_1 : w.heap.size + 1 < w1.heap.size := lt_via hbw1 (by first | omega | (simp; done) | (simp; omega))))
  have hbel1 : Below w.heap.size w w1 := (by repeat (first | exact Below.refl _ _ | assumption | refine ba_alloc ?_ _ | refine ba_drew ?_ | refine ba_drewN ?_ _ | refine ba_via (by assumption) ?_ | (refine ba_set ?_ ?_ _; rotate_left; (first | omega | (simp; omega) | simp))))
  have hK1 : Blk (w1.alloc (.cells #[.int .i64 r.at_.x, .int .i64 r.at_.y, .int .i64 r.at_.z] 87)) w1.heap.size 87 #[.int .i64 r.at_.x, .int .i64 r.at_.y, .int .i64 r.at_.z] := Blk.new _ _ _
  have hRB1 : Blk (w1.alloc (.cells #[.int .i64 r.at_.x, .int .i64 r.at_.y, .int .i64 r.at_.z] 87)) (w.heap.size + 1) 183 #[.string r.mark, .int .i64 r.tx, .int .i64 r.ty, .int .i64 r.at_.x, .int .i64 r.at_.y, .int .i64 r.at_.z, .int .i64 r.step.x, .int .i64 r.step.y, .int .i64 r.step.z, .int .i64 r.count] :=
    (Blk.via (by simpa using Blk.new (w.alloc (.cells #[.string b.mark, .int .i64 b.size, .int .i64 b.count, .int .i64 b.code, .slice A n c] 158)) 183 #[.string r.mark, .int .i64 r.tx, .int .i64 r.ty, .int .i64 r.at_.x, .int .i64 r.at_.y, .int .i64 r.at_.z, .int .i64 r.step.x, .int .i64 r.step.y, .int .i64 r.step.z, .int .i64 r.count]) hbw1).alloc _
  have hsP := ((own_cells how1 (by unfold maxLen; omega)).1).alloc (Nat.le_refl _) (.cells #[.int .i64 r.at_.x, .int .i64 r.at_.y, .int .i64 r.at_.z] 87)
  have hbel : Below w.heap.size w (w1.alloc (.cells #[.int .i64 r.at_.x, .int .i64 r.at_.y, .int .i64 r.at_.z] 87)) := ba_alloc hbel1 _
  have hz11 : w1.heap.size < (w1.alloc (.cells #[.int .i64 r.at_.x, .int .i64 r.at_.y, .int .i64 r.at_.z] 87)).heap.size := by simp
  clear hcw1 hfw1 how1 hbw1 HP HA
  generalize (w1.alloc (.cells #[.int .i64 r.at_.x, .int .i64 r.at_.y, .int .i64 r.at_.z] 87)) = W1 at *
  have hrl := hRB1.lt
  by_cases hk : 0 < k0
  case' pos =>
    have hki : (0 : Int) < (k0 : Int) := by omega
    have HTMk := Lib.hid (HTM.out hk)
    have HADk := Lib.hid (HAD.out hk)
    have r6 := hRB1.cell 6
    have r7 := hRB1.cell 7
    have r8 := hRB1.cell 8
    have q0 := hK1.cell 0
    have q1 := hK1.cell 1
    have q2 := hK1.cell 2
    simp only [List.getElem?_toArray, List.getElem?_cons_zero, List.getElem?_cons_succ] at r6 r7 r8 q0 q1 q2
    have f0 := hK1.frozen 0
    have f1 := hK1.frozen 1
    have f2 := hK1.frozen 2
    rw [plus_times] at HADk
    generalize S.times k0 r.step = T at *
    generalize hQ : S.plus r.at_ r.step k0 = Q at *
    have HQ := Lib.hid hQ
    clear hQ
    go_wp2
    refine wp_region_grow_tail 6 (by kernel_rfl) (by kernel_rfl) ?_
    simp only [List.take_succ_cons, List.take_zero, List.drop_succ_cons, List.drop_zero]
    repeat (go_big_quiet_step ((first
      | (go_at_call 236; with_reducible exact grow_of (HTMk.out _))
      | (go_at_call 235; with_reducible exact grow_of (HADk.out _)))))
    all_goals (refine wpQuiet_nil ?_; intro wg hbwg; obtain ⟨hcwg, hfwg⟩ := bcell hbwg)
    go_upto_region 5 with fail
    have hK2 : Blk (((wg.setCell ⟨w1.heap.size, 0, none⟩ (.int .i64 Q.x)).setCell ⟨w1.heap.size, 1, none⟩ (.int .i64 Q.y)).setCell ⟨w1.heap.size, 2, none⟩ (.int .i64 Q.z)) w1.heap.size 87 #[.int .i64 Q.x, .int .i64 Q.y, .int .i64 Q.z] := by
      have h6 := (((hK1.via hbwg).set 0 (.int .i64 Q.x)).set 1 (.int .i64 Q.y)).set 2 (.int .i64 Q.z)
      simp only [List.setIfInBounds_toArray, List.set_cons_zero, List.set_cons_succ] at h6
      exact h6
    have hne : w.heap.size + 1 ≠ w1.heap.size := by omega
    have hRB2 : Blk (((wg.setCell ⟨w1.heap.size, 0, none⟩ (.int .i64 Q.x)).setCell ⟨w1.heap.size, 1, none⟩ (.int .i64 Q.y)).setCell ⟨w1.heap.size, 2, none⟩ (.int .i64 Q.z)) (w.heap.size + 1) 183 #[.string r.mark, .int .i64 r.tx, .int .i64 r.ty, .int .i64 r.at_.x, .int .i64 r.at_.y, .int .i64 r.at_.z, .int .i64 r.step.x, .int .i64 r.step.y, .int .i64 r.step.z, .int .i64 r.count] := (((hRB1.via hbwg).far hne _).far hne _).far hne _
    have hX2 : Exc [w1.heap.size] W1 (((wg.setCell ⟨w1.heap.size, 0, none⟩ (.int .i64 Q.x)).setCell ⟨w1.heap.size, 1, none⟩ (.int .i64 Q.y)).setCell ⟨w1.heap.size, 2, none⟩ (.int .i64 Q.z)) := (((Exc.of_below1 hbwg).set (.inl (by simp)) _).set (.inl (by simp)) _).set (.inl (by simp)) _
    have hb2 : Below w.heap.size w (((wg.setCell ⟨w1.heap.size, 0, none⟩ (.int .i64 Q.x)).setCell ⟨w1.heap.size, 1, none⟩ (.int .i64 Q.y)).setCell ⟨w1.heap.size, 2, none⟩ (.int .i64 Q.z)) := hbel.trans (hX2.below hbel.size (by intro g hg; simp at hg; have := hbel1.size; omega))
    have hs2 := hsP.below (hX2.below (B := w1.heap.size) (by omega) (by intro g hg; simp at hg; omega))
    have hz2 : w1.heap.size < (((wg.setCell ⟨w1.heap.size, 0, none⟩ (.int .i64 Q.x)).setCell ⟨w1.heap.size, 1, none⟩ (.int .i64 Q.y)).setCell ⟨w1.heap.size, 2, none⟩ (.int .i64 Q.z)).heap.size := hK2.lt
    clear hcwg hfwg r6 r7 r8 q0 q1 q2 f0 f1 f2 HTMk HADk hK1 hRB1 hX2
    clear hbwg hsP
    generalize (((wg.setCell ⟨w1.heap.size, 0, none⟩ (.int .i64 Q.x)).setCell ⟨w1.heap.size, 1, none⟩ (.int .i64 Q.y)).setCell ⟨w1.heap.size, 2, none⟩ (.int .i64 Q.z)) = W2 at *
  case' neg =>
    have hb2 := hbel
    have hz2 := hz11
    have hK2 := hK1
    have hRB2 := hRB1
    have hs2 := hsP
    rw [← HZ.out hk] at hK2
    clear hK1 hRB1 hbel hsP
    generalize hQ : S.plus r.at_ r.step k0 = Q at *
    have HQ := Lib.hid hQ
    clear hQ
    generalize W1 = W2 at *
    have hki : ¬ (0 : Int) < (k0 : Int) := by omega
  all_goals (
    have hHL := Lib.hid (show ∀ i (p : Pt), (S.path b)[i]? = some p → (((S.path b).take (i + 1)).map (fun p => S.padd Q (S.image r.tx r.ty p))).flatMap ptC = (((S.path b).take i).map (fun p => S.padd Q (S.image r.tx r.ty p))).flatMap ptC ++ ptC (S.padd Q (S.image r.tx r.ty p)) from fun i p hp => by
      obtain ⟨hi, rfl⟩ := List.getElem?_eq_some_iff.1 hp
      rw [List.take_succ_eq_append_getElem hi, List.map_append, List.flatMap_append]
      simp)
    have hL6 := hl6
    have hrl2 := hRB2.lt
    go_wp2
    go_loopw [9, 10] (fun v i wr => ∃ (k : Nat) (A3 : Option Addr) (c3 : Nat), k ≤ L + 1 ∧ i = .int .i64 k ∧ v = .slice A3 k c3 ∧ Row W2 wr none w.heap.size 87 3 (.slice A3 k c3) k ((((S.path b).take k).map (fun p => S.padd Q (S.image r.tx r.ty p))).flatMap ptC) ∧ Exc [] W2 wr) (fun _ i _ => L + 1 - (intOf i).toNat)
    case atStart => exact ⟨0, none, 0, Nat.zero_le _, rfl, rfl, by simpa using Row.none_ _ _ _ _, Exc.refl _ _⟩
    case round =>
      obtain ⟨k, A3, c3, hk, rfl, rfl, hR, hX⟩ := hrel
      have hbx : Below W2.heap.size W2 wr := hX.below (Nat.le_refl _) (by simp)
      by_cases hlt : k < L + 1
      · have hkx : k < (S.path b).length := by have := HLP.out; omega
        have hs' := hs2.below (hbx.mono (Nat.le_of_lt hz2))
        obtain ⟨b4, o4, rfl, hbl, _⟩ := hs'.at_ (by rw [flat_len ptC 3 ptC_len]; omega)
        obtain ⟨c0, c1, c2⟩ := hs'.pts (List.getElem?_eq_getElem hkx)
        have HT := Lib.hid (hHL.out k _ (List.getElem?_eq_getElem hkx))
        have hpi := HPI.out k _ (List.getElem?_eq_getElem hkx)
        have HIMk := Lib.hid (HIM.out _ hpi)
        have HPLk := Lib.hid (HPL.out _ hpi)
        clear hs' hpi
        generalize (S.path b)[k] = p at *
        generalize S.image r.tx r.ty p = I at *
        generalize S.padd Q I = R at *
        have hsz := hbx.size
        have q0 := (hK2.via hbx).cell 0
        have q1 := (hK2.via hbx).cell 1
        have q2 := (hK2.via hbx).cell 2
        have r1 := (hRB2.via hbx).cell 1
        have r2 := (hRB2.via hbx).cell 2
        simp only [List.getElem?_toArray, List.getElem?_cons_zero, List.getElem?_cons_succ] at q0 q1 q2 r1 r2
        have hl1 : b4 < wr.heap.size := by omega
        have hl2 : w1.heap.size < wr.heap.size := by omega
        have hl3 : w.heap.size + 1 < wr.heap.size := by omega
        have hki : (k : Int) < ((L + 1 : Nat) : Int) := by omega
        have hk8 : k ≤ 8 := by omega
        go_wp2
        refine wp_region_grow_tail1 10 (by kernel_rfl) (by kernel_rfl) (fun _ _ _ h => h) (Or.inl ⟨by rfl, fun _ => by rfl⟩) ?_
        simp only [List.take_succ_cons, List.take_zero, List.drop_succ_cons, List.drop_zero, go_sem, List.setIfInBounds_toArray, List.set_cons_succ, List.set_cons_zero, Array.getD_eq_getD_getElem?, List.getElem?_toArray, List.getElem?_cons_succ, List.getElem?_cons_zero, Option.getD_some]
        repeat (go_big_quiet_step ((first
          | (go_at_call 237; with_reducible exact grow_of (HIMk.out _))
          | (go_at_call 235; with_reducible exact grow_of (HPLk.out _)))))
        all_goals (refine wpQuiet_nil ?_; intro wg hbwg; obtain ⟨hcwg, hfwg⟩ := bcell hbwg)
        go_wp2_with (at_builtin; refine wpList_push rfl (.tmp 29) (.tmp 39) _ rfl elemPt ((hR.via hbwg).alloc _) ((Exc.via hbwg hX).alloc _) (by simp) hb2.size rfl (wg.heap.size) 1 1 [.int .i64 R.x, .int .i64 R.y, .int .i64 R.z] rfl rfl ?_ (by simp [Value.oneCell']) (by unfold maxLen; omega) (by omega) ?_; (· intro j u hu; exact by have := (Cells.newRow wg #[.int .i64 R.x, .int .i64 R.y, .int .i64 R.z] 87 (0, 0)).get (k := j) (v := u) hu; rwa [Nat.zero_add] at this); intro v' w' hR' hX' hO'; clear hcwg hfwg)
        obtain ⟨A5, c5, rfl, _, _, _⟩ := own_form hR'.own
        go_roundw
        case rel => exact ⟨k + 1, A5, c5, by omega, by go_num, rfl, by rw [HT.out]; exact hR', hX'⟩
        case measure => simp [intOf]; omega
      · have he : k = L + 1 := by omega
        have HT := Lib.hid (show (S.path b).take k = S.path b from List.take_of_length_le (by have := HLP.out; omega))
        subst he
        go_wp2
        go_ret
        refine ⟨A3, c3, rfl, ?_, ba_via hbx hb2⟩
        have := hR.own
        rw [HT.out, ← HQ.out] at this
        exact this)
end Go.Proofs.YtffkmgjmlahfpaaGreat
set_option linter.unusedVariables false
set_option linter.unusedSimpArgs false
namespace Go.Proofs.YtffkmgjmlahfpaaGreat
open Go.RowKit
set_option maxHeartbeats 1000000 in
theorem rsched_any (l : List BarR) (A : Option Addr) (n c : Nat) (B : Nat) (w : World) (hB : B ≤ w.heap.size) (hA : BarsAt w B A n l) :
    Calls Tryz.prog 114 #[.slice A n c] w fun e w' => e = .returned (.bool (S.sched (bars l))) ∧ Below w.heap.size w w' := by
  have HA := Lib.hid hA
  have hL : (bars l).length = n := by simpa using hA.len
  have HL := Lib.hid hL
  clear hA
  by_cases h60 : 60 < n
  · have HS := Lib.hid (show S.sched (bars l) = false from by unfold S.sched; rw [hL]; simp; omega)
    clear hL
    go_enter Tryz.func114, Tryz.ntmps114
    go_wp2
    go_ret
    exact ⟨ret_b HS.out.symm, (by repeat (first | exact Below.refl _ _ | assumption | refine ba_alloc ?_ _ | refine ba_drew ?_ | refine ba_drewN ?_ _ | refine ba_via (by assumption) ?_ | (refine ba_set ?_ ?_ _; rotate_left; (first | omega | (simp; omega) | simp))))⟩
  clear hL
  go_enter Tryz.func114, Tryz.ntmps114
  go_wp2
  go_loopw [3] (fun i wr => ∃ k : Nat, k ≤ n ∧ i = .int .i64 k ∧ (∀ j, j < k → S.schedAt (bars l) j = true) ∧ Below w.heap.size w wr) (fun i _ => n - (intOf i).toNat)
  case atStart => exact ⟨0, Nat.zero_le _, rfl, fun j hj => absurd hj (by omega), Below.refl _ _⟩
  case round =>
    obtain ⟨k, hk, rfl, hno, hbr⟩ := hrel
    have HNO := Lib.hid hno
    clear hno
    by_cases hlt : k < n
    · have hkx : k < l.length := by have := HA.out.len; omega
      have hkb : k < (bars l).length := by have := HL.out; omega
      have hwr : B ≤ wr.heap.size := by have := hbr.size; omega
      have hA' := HA.out.at_ hB hbr
      have HA' := Lib.hid hA'
      have hs' := hA'.cells
      have HE := Lib.hid (hA'.each l[k] (List.getElem_mem hkx))
      obtain ⟨b, o, hAe, hbB, _⟩ := hs'.at_ (by rw [flat_len barC 5 barC_len]; omega)
      have hbl : b < wr.heap.size := by omega
      subst hAe
      have c0 := hs'.row0 barC_len hkx rfl
      have c1 := hs'.rowj barC_len hkx 1 rfl
      have c2 := hs'.rowj barC_len hkx 2 rfl
      have c3 := hs'.rowj barC_len hkx 3 rfl
      have c4 := hs'.rowj barC_len hkx 4 rfl
      have HAT := Lib.hid (schedAt_eq (l := bars l) (k := k) (b := l[k].b) (by simp [hkx]))
      have HNS := Lib.hid (fun h => sched_no (l := bars l) hkb h)
      have HIX := Lib.hid (fun (W : World) (hw : B ≤ W.heap.size) (hh : BarsAt W B (some ⟨b, o, none⟩) n l) => rfind14_any l l[k].b.mark (some ⟨b, o, none⟩) n c B W hw hh)
      have HVX := Lib.hid (fun (W : World) (hw : B ≤ W.heap.size) (hh : BarAt W B l[k].A l[k].n l[k].b) => rvalid12_any l[k].b l[k].A l[k].n l[k].c B W hw hh)
      have hb2 := index_bd (bars l) l[k].b.mark
      clear hA' hs'
      unfold barV at HVX
      generalize S.index (bars l) l[k].b.mark = j at *
      generalize S.bar l[k].b = t at *
      generalize l[k] = r at *
      cases t
      · go_wp2_with (first
          | (go_at_call 174; (with_reducible refine (HVX.out _ hwr HE.out).mono ?_); rintro e w1 ⟨rfl, hbw1⟩; obtain ⟨hcw1, hfw1⟩ := bcell hbw1))
        go_ret
        exact ⟨ret_b (HNS.out (by rw [HAT.out]; simp)).symm, (by repeat (first | exact Below.refl _ _ | assumption | refine ba_alloc ?_ _ | refine ba_drew ?_ | refine ba_drewN ?_ _ | refine ba_via (by assumption) ?_ | (refine ba_set ?_ ?_ _; rotate_left; (first | omega | (simp; omega) | simp))))⟩
      · by_cases hj : j = (k : Int)
        · go_wp2_with (first
            | (go_at_call 174; (with_reducible refine (HVX.out _ hwr HE.out).mono ?_); rintro e w1 ⟨rfl, hbw1⟩; obtain ⟨hcw1, hfw1⟩ := bcell hbw1)
            | (go_at_call 162; (with_reducible refine (HIX.out _ (by have := hbw1.size; omega) (HA'.out.at_ hwr hbw1)).mono ?_); rintro e w2 ⟨rfl, hbw2⟩; obtain ⟨hcw2, hfw2⟩ := bcell hbw2))
          go_roundw
          case rel =>
            refine ⟨k + 1, by omega, by go_num, fun j' hj' => ?_, (by repeat (first | exact Below.refl _ _ | assumption | refine ba_alloc ?_ _ | refine ba_drew ?_ | refine ba_drewN ?_ _ | refine ba_via (by assumption) ?_ | (refine ba_set ?_ ?_ _; rotate_left; (first | omega | (simp; omega) | simp))))⟩
            by_cases hjk : j' = k
            · subst hjk; rw [HAT.out]; simp [hj]
            · exact HNO.out j' (by omega)
          case measure => simp [intOf]; omega
        · go_wp2_with (first
            | (go_at_call 174; (with_reducible refine (HVX.out _ hwr HE.out).mono ?_); rintro e w1 ⟨rfl, hbw1⟩; obtain ⟨hcw1, hfw1⟩ := bcell hbw1)
            | (go_at_call 162; (with_reducible refine (HIX.out _ (by have := hbw1.size; omega) (HA'.out.at_ hwr hbw1)).mono ?_); rintro e w2 ⟨rfl, hbw2⟩; obtain ⟨hcw2, hfw2⟩ := bcell hbw2))
          go_ret
          exact ⟨ret_b (HNS.out (by rw [HAT.out]; simp [hj])).symm, (by repeat (first | exact Below.refl _ _ | assumption | refine ba_alloc ?_ _ | refine ba_drew ?_ | refine ba_drewN ?_ _ | refine ba_via (by assumption) ?_ | (refine ba_set ?_ ?_ _; rotate_left; (first | omega | (simp; omega) | simp))))⟩
    · go_wp2
      go_ret
      exact ⟨ret_b (sched_yes (by have := HL.out; omega) (fun j hj => HNO.out j (by have := HL.out; omega))).symm, hbr⟩
theorem rrun_no0 (l : List BarR) (r : Rn) (A : Option Addr) (n c : Nat) (B : Nat) (w : World) (hB : B ≤ w.heap.size) (hA : BarsAt w B A n l) (h : S.rightHead (bars l) r = false) :
    Calls Tryz.prog 115 #[.slice A n c, rnV r] w fun e w' => e = .returned (.bool false) ∧ Below w.heap.size w w' := by
  have HA := Lib.hid hA
  have HI := Lib.hid (fun (W : World) (hw : B ≤ W.heap.size) (hh : BarsAt W B A n l) => rfind14_any l r.mark A n c B W hw hh)
  have HV := Lib.hid (fun w => rturn_any r.tx r.ty w)
  have HP := Lib.hid (fun w => rnear1_any r.at_ w)
  unfold S.rightHead at h
  generalize S.index (bars l) r.mark = j at *
  generalize S.turn r.tx r.ty = t1 at *
  generalize S.near1 r.at_ 1048576 = t2 at *
  have hcs : j < 0 ∨ (¬ j < 0 ∧ t1 = false) ∨ (¬ j < 0 ∧ t1 = true ∧ r.count < 1) ∨ (¬ j < 0 ∧ t1 = true ∧ ¬ r.count < 1 ∧ 1000 < r.count) ∨ (¬ j < 0 ∧ t1 = true ∧ ¬ r.count < 1 ∧ ¬ 1000 < r.count ∧ t2 = false) := by
    by_cases h0 : j < 0
    · exact .inl h0
    · cases t1
      · exact .inr (.inl ⟨h0, rfl⟩)
      · by_cases h1 : r.count < 1
        · exact .inr (.inr (.inl ⟨h0, rfl, h1⟩))
        · by_cases h2 : 1000 < r.count
          · exact .inr (.inr (.inr (.inl ⟨h0, rfl, h1, h2⟩)))
          · cases t2
            · exact .inr (.inr (.inr (.inr ⟨h0, rfl, h1, h2, rfl⟩)))
            · exfalso
              have h3 : 1 ≤ r.count := by omega
              have h4 : r.count ≤ 1000 := by omega
              simp [h0, h3, h4] at h
  clear hA h
  unfold turnV at HV
  unfold ptV at HP
  unfold rnV
  rcases hcs with h0 | ⟨h0, rfl⟩ | ⟨h0, rfl, h1⟩ | ⟨h0, rfl, h1, h2⟩ | ⟨h0, rfl, h1, h2, rfl⟩
  all_goals (
    go_enter Tryz.func115, Tryz.ntmps115
    go_wp2_with (first
      | (go_at_call 162; (with_reducible refine (HI.out _ (by simp; omega) (HA.out.at_ hB (by repeat (first | exact Below.refl _ _ | assumption | refine ba_alloc ?_ _ | refine ba_drew ?_ | refine ba_drewN ?_ _ | refine ba_via (by assumption) ?_ | (refine ba_set ?_ ?_ _; rotate_left; (first | omega | (simp; omega) | simp)))))).mono ?_); rintro e w1 ⟨rfl, hbw1⟩; obtain ⟨hcw1, hfw1⟩ := bcell hbw1; have hzw1_0 : w.heap.size < w1.heap.size := lt_via hbw1 (by first | omega | (simp; done) | (simp; omega)))
      | (go_at_call 175; (with_reducible refine (HV.out _).mono ?_); rintro e w2 ⟨rfl, hbw2⟩; obtain ⟨hcw2, hfw2⟩ := bcell hbw2; have hzw2_0 : w.heap.size < w2.heap.size := lt_via hbw2 (by first | omega | (simp; done) | (simp; omega)))
      | (go_at_call 176; (with_reducible refine (HP.out _).mono ?_); rintro e w3 ⟨rfl, hbw3⟩; obtain ⟨hcw3, hfw3⟩ := bcell hbw3; have hzw3_0 : w.heap.size < w3.heap.size := lt_via hbw3 (by first | omega | (simp; done) | (simp; omega))))
    go_ret
    exact ⟨rfl, (by repeat (first | exact Below.refl _ _ | assumption | refine ba_alloc ?_ _ | refine ba_drew ?_ | refine ba_drewN ?_ _ | refine ba_via (by assumption) ?_ | (refine ba_set ?_ ?_ _; rotate_left; (first | omega | (simp; omega) | simp))))⟩)
theorem rrun_no1 (l : List BarR) (r : Rn) (A : Option Addr) (n c : Nat) (B : Nat) (w : World) (hB : B ≤ w.heap.size) (hA : BarsAt w B A n l) (h : S.rightHead (bars l) r = true) (h' : S.rightStep r = false) :
    Calls Tryz.prog 115 #[.slice A n c, rnV r] w fun e w' => e = .returned (.bool false) ∧ Below w.heap.size w w' := by
  have HA := Lib.hid hA
  obtain ⟨⟨h0, h1, h2⟩, h3, h4⟩ := rightHead_out h
  have HI := Lib.hid (fun (W : World) (hw : B ≤ W.heap.size) (hh : BarsAt W B A n l) => rfind14_any l r.mark A n c B W hw hh)
  have HV := Lib.hid (fun w => h1 ▸ rturn_any r.tx r.ty w)
  have HP := Lib.hid (fun w => h2 ▸ rnear1_any r.at_ w)
  have HS := Lib.hid (fun w => rtwice_any r.step w)
  have hz : ∀ W, (binOp .eql 87 (.agg #[.int .i64 r.step.x, .int .i64 r.step.y, .int .i64 r.step.z]) (.agg #[.int .i64 0, .int .i64 0, .int .i64 0])).run Tryz.prog W = .ok (.bool (S.pt0 r.step)) W := fun W => run_eq0 r.step W
  have z91 : ∀ W, (Instr.build 87 #[]).run Tryz.prog W = .ok (.agg #[.int .i64 0, .int .i64 0, .int .i64 0]) W := fun _ => by kernel_rfl
  unfold S.rightStep at h'
  clear hA h
  generalize S.index (bars l) r.mark = j at *
  generalize S.near1 r.step 2097152 = t2 at *
  generalize S.pt0 r.step = t1 at *
  have hj : ¬ j < 0 := by omega
  have hcs : (1 < r.count ∧ t1 = true) ∨ (1 < r.count ∧ t1 = false ∧ t2 = false) := by
    by_cases h5 : 1 < r.count
    · cases t1
      · cases t2
        · exact .inr ⟨h5, rfl, rfl⟩
        · simp [h5] at h'
      · exact .inl ⟨h5, rfl⟩
    · simp [h5] at h'
  clear h0 h1 h2 h'
  unfold turnV at HV
  unfold ptV at HP HS
  unfold rnV
  rcases hcs with ⟨h5, rfl⟩ | ⟨h5, rfl, rfl⟩
  all_goals (
    go_enter Tryz.func115, Tryz.ntmps115
    go_wp2_with (first
      | (go_at_call 162; (with_reducible refine (HI.out _ (by simp; omega) (HA.out.at_ hB (by repeat (first | exact Below.refl _ _ | assumption | refine ba_alloc ?_ _ | refine ba_drew ?_ | refine ba_drewN ?_ _ | refine ba_via (by assumption) ?_ | (refine ba_set ?_ ?_ _; rotate_left; (first | omega | (simp; omega) | simp)))))).mono ?_); rintro e w1 ⟨rfl, hbw1⟩; obtain ⟨hcw1, hfw1⟩ := bcell hbw1; have hzw1_0 : w.heap.size < w1.heap.size := lt_via hbw1 (by first | omega | (simp; done) | (simp; omega)))
      | (go_at_call 175; (with_reducible refine (HV.out _).mono ?_); rintro e w2 ⟨rfl, hbw2⟩; obtain ⟨hcw2, hfw2⟩ := bcell hbw2; have hzw2_0 : w.heap.size < w2.heap.size := lt_via hbw2 (by first | omega | (simp; done) | (simp; omega)))
      | (go_at_call 176; (with_reducible refine (HP.out _).mono ?_); rintro e w3 ⟨rfl, hbw3⟩; obtain ⟨hcw3, hfw3⟩ := bcell hbw3; have hzw3_0 : w.heap.size < w3.heap.size := lt_via hbw3 (by first | omega | (simp; done) | (simp; omega)))
      | (go_at_call 177; (with_reducible refine (HS.out _).mono ?_); rintro e w4 ⟨rfl, hbw4⟩; obtain ⟨hcw4, hfw4⟩ := bcell hbw4; have hzw4_0 : w.heap.size < w4.heap.size := lt_via hbw4 (by first | omega | (simp; done) | (simp; omega))))
    go_ret
    exact ⟨rfl, (by repeat (first | exact Below.refl _ _ | assumption | refine ba_alloc ?_ _ | refine ba_drew ?_ | refine ba_drewN ?_ _ | refine ba_via (by assumption) ?_ | (refine ba_set ?_ ?_ _; rotate_left; (first | omega | (simp; omega) | simp))))⟩)
end Go.Proofs.YtffkmgjmlahfpaaGreat
set_option linter.unusedVariables false
set_option linter.unusedSimpArgs false
namespace Go.Proofs.YtffkmgjmlahfpaaGreat
open Go.RowKit
/-- What an operation has left in its slot. -/
def slotV (a : Act) (o : Oper) : Value := match o.dst with | some s => a.tmps.getD s undef | none => undef
theorem cnt_set : ∀ (l : List Bool) (i : Nat), l[i]? = some false → (l.set i true).count false + 1 = l.count false := by
  intro l
  induction l with
  | nil => intro i h; simp at h
  | cons b l ih =>
    intro i h
    cases i with
    | zero =>
      simp only [List.getElem?_cons_zero, Option.some.injEq] at h
      subst h
      simp
    | succ i =>
      simp only [List.getElem?_cons_succ] at h
      have := ih i h
      cases b <;> simp <;> omega
section
variable {P : Program} {l : List Oper} {V : Nat → Value → World → Prop} {S : Act → World → Prop} {G : World → World → Prop} {Q : Exit → Act → World → Prop}
theorem slot_put {a : Act} {oi oj : Oper} {v : Value} (h : oi.dst.isSome = true → oi.dst ≠ oj.dst) : slotV (a.put oj.dst v) oi = slotV a oi := by
  unfold slotV Act.put
  cases hi : oi.dst with
  | none => rfl
  | some s =>
    cases hj : oj.dst with
    | none => rfl
    | some d =>
      have hne : s ≠ d := by
        have := h (by simp [hi])
        rw [hi, hj] at this
        simpa using this
      simp only [Array.getD_eq_getD_getElem?]
      rw [Array.getElem?_setIfInBounds_ne (fun e => hne e.symm)]
theorem slot_same {a : Act} {oj : Oper} {v : Value} (hb : ∀ s, oj.dst = some s → s < a.tmps.size) (hn : oj.dst = none → v = undef) : slotV (a.put oj.dst v) oj = v := by
  unfold slotV Act.put
  cases hj : oj.dst with
  | none => simpa using (hn hj).symm
  | some d =>
    have := hb d hj
    simp [Array.getD_eq_getD_getElem?, this]
theorem wpAny_rel {md : Region.Mode}
    (hV : ∀ i v w w', V i v w → G w w' → V i v w')
    (hearly : ∀ (j : Nat) (oj : Oper), l[j]? = some oj → ∀ e ∈ oj.after, Region.binds md e = true → e.on < j)
    (hdst : ∀ (i j : Nat) (oi oj : Oper), l[i]? = some oi → l[j]? = some oj → i ≠ j → oi.dst.isSome = true → oi.dst ≠ oj.dst)
    (hsz : ∀ (j : Nat) (oj : Oper) (s : Nat) (a : Act) (w : World), l[j]? = some oj → oj.dst = some s → S a w → s < a.tmps.size)
    (hstep : ∀ (j : Nat) (oj : Oper) (a : Act) (w : World), l[j]? = some oj → S a w → (∀ e ∈ oj.after, Region.binds md e = true → ∀ oe, l[e.on]? = some oe → V e.on (slotV a oe) w) →
      wpOp P l.toArray Q j (fun a' w' => ∃ v, a' = a.put oj.dst v ∧ (oj.dst = none → v = undef) ∧ V j v w' ∧ G w w' ∧ S a' w') a w)
    (hend : ∀ (a : Act) (w : World), S a w → (∀ j oj, l[j]? = some oj → V j (slotV a oj) w) → Q .normal a w) :
    ∀ (f : Nat) (listed : Array Bool) (a : Act) (w : World), listed.size = l.length → listed.toList.count false ≤ f → S a w → (∀ j oj, l[j]? = some oj → listed.getD j false = true → V j (slotV a oj) w) →
      wpAny P md l.toArray Q f listed a w := by
  have hlow : ∀ (listed : Array Bool), listed.size = l.length → Region.ready md l.toArray listed = [] → ∀ n, n ≤ l.length → ∀ j, j < n → listed.getD j false = true := by
    intro listed hls hr n
    induction n with
    | zero => intro _ j hj; omega
    | succ n ih =>
      intro hn j hj
      by_cases hjn : j < n
      · exact ih (by omega) j hjn
      · obtain rfl : j = n := by omega
        by_cases hlj : listed.getD j false = true
        · exact hlj
        · exfalso
          have hjl : j < l.length := by omega
          have hm : j ∈ Region.ready md l.toArray listed := by
            rw [mem_ready]
            refine ⟨?_, l[j], by simp [hjl], fun e he hb => ?_⟩
            · have h1 : j < listed.size := by omega
              simp [Array.getD_eq_getD_getElem?, h1] at hlj ⊢
              exact hlj
            · exact ih (by omega) e.on (hearly j l[j] (by simp [hjl]) e he hb)
          rw [hr] at hm
          cases hm
  have hfin : ∀ (listed : Array Bool) (a : Act) (w : World), listed.size = l.length → Region.ready md l.toArray listed = [] → S a w → (∀ j oj, l[j]? = some oj → listed.getD j false = true → V j (slotV a oj) w) → Q .normal a w := by
    intro listed a w hls hr hS hI
    refine hend a w hS (fun j oj hj => hI j oj hj ?_)
    exact hlow listed hls hr l.length (Nat.le_refl _) j (List.getElem?_eq_some_iff.1 hj).1
  intro f
  induction f with
  | zero =>
    intro listed a w hls hc hS hI
    have hr : Region.ready md l.toArray listed = [] := by
      rcases hrr : Region.ready md l.toArray listed with _ | ⟨j, t⟩
      · rfl
      · exfalso
        have hm : j ∈ Region.ready md l.toArray listed := by rw [hrr]; simp
        rw [mem_ready] at hm
        obtain ⟨h1, o, ho, _⟩ := hm
        have hjl : j < l.length := by
          have := (Array.getElem?_eq_some_iff.1 ho).1
          simpa using this
        have h2 : j < listed.size := by omega
        have h3 : listed[j] = false := by simpa [Array.getD_eq_getD_getElem?, h2] using h1
        have : false ∈ listed.toList := by
          rw [← h3]
          simp
        have := List.count_pos_iff.2 this
        omega
    exact ⟨hr, hfin listed a w hls hr hS hI⟩
  | succ f ih =>
    intro listed a w hls hc hS hI
    refine ⟨fun hr => hfin listed a w hls hr hS hI, fun j hj => ?_⟩
    rw [mem_ready] at hj
    obtain ⟨h1, oj, hoj, hdep⟩ := hj
    have hoj' : l[j]? = some oj := by simpa using hoj
    have hjl : j < l.length := (List.getElem?_eq_some_iff.1 hoj').1
    have h2 : j < listed.size := by omega
    have h3 : listed[j] = false := by simpa [Array.getD_eq_getD_getElem?, h2] using h1
    refine wpOp_mono ?_ (hstep j oj a w hoj' hS (fun e he hb oe hoe => hI e.on oe hoe (hdep e he hb)))
    rintro a' w' ⟨v, rfl, hvn, hvj, hg, hS'⟩
    refine ih _ _ _ (by simpa using hls) ?_ hS' (fun i oi hoi hli => ?_)
    · have hcs := cnt_set listed.toList j (by simp [h2, h3])
      rw [Array.toList_setIfInBounds]
      omega
    · by_cases hij : i = j
      · subst hij
        rw [hoj'] at hoi
        injection hoi with hoi
        subst hoi
        rw [slot_same (fun s hs => hsz i oj s a w hoj' hs hS) hvn]
        exact hvj
      · rw [slot_put (fun hs => hdst i j oi oj hoi hoj' hij hs)]
        refine hV _ _ _ _ (hI i oi hoi ?_) hg
        have hil : i < listed.size := by have := (List.getElem?_eq_some_iff.1 hoi).1; omega
        rw [Array.getD_eq_getD_getElem?, Array.getElem?_setIfInBounds_ne (fun e => hij e.symm)] at hli
        rw [Array.getD_eq_getD_getElem?]
        exact hli
/-- The region. -/
theorem wp_region_rel {id : Nat} {a : Act} {w : World} (hm : P.follows .mixedOrders = true)
    (hV : ∀ i v w w', V i v w → G w w' → V i v w')
    (hearly : ∀ (j : Nat) (oj : Oper), l[j]? = some oj → ∀ e ∈ oj.after, Region.binds .any e = true → e.on < j)
    (hdst : ∀ (i j : Nat) (oi oj : Oper), l[i]? = some oi → l[j]? = some oj → i ≠ j → oi.dst.isSome = true → oi.dst ≠ oj.dst)
    (hsz : ∀ (j : Nat) (oj : Oper) (s : Nat) (a : Act) (w : World), l[j]? = some oj → oj.dst = some s → S a w → s < a.tmps.size)
    (h0 : S a w.drew)
    (hstep : ∀ (j : Nat) (oj : Oper) (a : Act) (w : World), l[j]? = some oj → S a w → (∀ e ∈ oj.after, Region.binds .any e = true → ∀ oe, l[e.on]? = some oe → V e.on (slotV a oe) w) →
      wpOp P l.toArray Q j (fun a' w' => ∃ v, a' = a.put oj.dst v ∧ (oj.dst = none → v = undef) ∧ V j v w' ∧ G w w' ∧ S a' w') a w)
    (hend : ∀ (a : Act) (w : World), S a w → (∀ j oj, l[j]? = some oj → V j (slotV a oj) w) → Q .normal a w) : (Code.region id l.toArray true).wp P Q a w := by
  refine wp_region_any hm ?_
  refine wpAny_rel hV hearly hdst hsz hstep hend _ _ a w.drew (by simp) ?_ h0 (fun j oj hj hl => ?_)
  · simp
  · rw [Array.getD_eq_getD_getElem?] at hl
    have hjl : j < l.length := (List.getElem?_eq_some_iff.1 hj).1
    simp [hjl] at hl
end
theorem op_val {P : Program} {ops : Array Oper} {Q : Exit → Act → World → Prop} {j : Nat} {K : Act → World → Prop} {a : Act} {w w' : World} {o : Oper} {v : Value} (ho : ops[j]? = some o) (hg : o.guard = none)
    (hr : (execOp a.eval o).run P w = .ok (.value v) w') (hK : K (a.put o.dst v) w') : wpOp P ops Q j K a w := by
  unfold wpOp
  rw [ho]
  simp only []
  rw [if_pos (by simp [Region.wanted, hg])]
  left
  unfold Oper.wp
  rw [hr]
  exact hK
theorem op_skip {P : Program} {ops : Array Oper} {Q : Exit → Act → World → Prop} {j : Nat} {K : Act → World → Prop} {a : Act} {w w' : World} {o : Oper} (ho : ops[j]? = some o) (hg : o.guard = none)
    (hr : (execOp a.eval o).run P w = .ok .skip w') (hK : K (a.put o.dst undef) w') : wpOp P ops Q j K a w := by
  unfold wpOp
  rw [ho]
  simp only []
  rw [if_pos (by simp [Region.wanted, hg])]
  left
  unfold Oper.wp
  rw [hr]
  exact hK
theorem op_call {P : Program} {ops : Array Oper} {Q : Exit → Act → World → Prop} {j : Nat} {K : Act → World → Prop} {a : Act} {w : World} {o : Oper} {f : FuncId} {args : Array Value} (ho : ops[j]? = some o) (hg : o.guard = none)
    (hr : (execOp a.eval o).run P w = .ok (.enter f args) w) {R : Ending → World → Prop} (hc : Calls P f args w R) (hK : ∀ e w', R e w' → ∃ v, e = .returned v ∧ K (a.put o.dst v) w') : wpOp P ops Q j K a w := by
  unfold wpOp
  rw [ho]
  simp only []
  rw [if_pos (by simp [Region.wanted, hg])]
  left
  unfold Oper.wp
  rw [hr]
  exact hc.mono (fun e w' h => by obtain ⟨v, rfl, hk⟩ := hK e w' h; exact hk)
def earlyB (md : Region.Mode) (l : List Oper) : Bool := (List.range l.length).all fun j => match l[j]? with | some o => o.after.all (fun e => !Region.binds md e || decide (e.on < j)) | none => true
def distB (l : List Oper) : Bool := (List.range l.length).all fun i => (List.range l.length).all fun j => i == j || (match l[i]?, l[j]? with | some oi, some oj => !oi.dst.isSome || (oi.dst != oj.dst) | _, _ => true)
def slotsB (N : Nat) (l : List Oper) : Bool := l.all fun o => match o.dst with | some s => decide (s < N) | none => true
theorem earlyB_out {md : Region.Mode} {l : List Oper} (h : earlyB md l = true) : ∀ (j : Nat) (oj : Oper), l[j]? = some oj → ∀ e ∈ oj.after, Region.binds md e = true → e.on < j := by
  intro j oj hj e he hb
  unfold earlyB at h
  rw [List.all_eq_true] at h
  have := h j (by simpa using (List.getElem?_eq_some_iff.1 hj).1)
  rw [hj] at this
  simp only [Array.all_eq_true_iff_forall_mem] at this
  have := this e he
  simp only [hb, Bool.not_true, Bool.false_or, decide_eq_true_eq] at this
  exact this
theorem distB_out {l : List Oper} (h : distB l = true) : ∀ (i j : Nat) (oi oj : Oper), l[i]? = some oi → l[j]? = some oj → i ≠ j → oi.dst.isSome = true → oi.dst ≠ oj.dst := by
  intro i j oi oj hi hj hij hs
  unfold distB at h
  rw [List.all_eq_true] at h
  have := h i (by simpa using (List.getElem?_eq_some_iff.1 hi).1)
  rw [List.all_eq_true] at this
  have := this j (by simpa using (List.getElem?_eq_some_iff.1 hj).1)
  rw [hi, hj] at this
  simpa [hij, hs] using this
theorem slotsB_out {N : Nat} {l : List Oper} (h : slotsB N l = true) {j : Nat} {oj : Oper} {s : Nat} (hj : l[j]? = some oj) (hs : oj.dst = some s) : s < N := by
  unfold slotsB at h
  rw [List.all_eq_true] at h
  have := h oj (List.mem_of_getElem? hj)
  rw [hs] at this
  simpa using this
theorem exc_setCells (b : Nat) : ∀ (vs : List Value) (o : Nat) (w : World), Exc [b] w (w.setCells b o vs) := by
  intro vs
  induction vs with
  | nil => intro o w; exact Exc.refl _ _
  | cons v r ih =>
    intro o w
    have h1 : Exc [b] w (w.setCell ⟨b, o, none⟩ v) := (Exc.refl _ _).set (.inl (by simp)) v
    have h2 := ih (o + 1) (w.setCell ⟨b, o, none⟩ v)
    exact ⟨h2.os.trans h1.os, h2.tape.trans h1.tape, h2.output.trans h1.output, Nat.le_trans h1.size h2.size, fun k hk hm => (h2.block k (Nat.lt_of_lt_of_le hk h1.size) hm).trans (h1.block k hk hm)⟩
end Go.Proofs.YtffkmgjmlahfpaaGreat
set_option linter.unusedVariables false
set_option linter.unusedSimpArgs false
namespace Go.Proofs.YtffkmgjmlahfpaaGreat
open Go.RowKit
section
variable {P : Program} {ops : Array Oper} {md : Region.Mode} {C : World → Prop}
/-- Kinds of operations that hand back a value, and call no function. -/
def calmB (o : Oper) : Bool := match o.op with
  | .move _ | .assign _ | .pick _ _ _ | .build _ _ | .load _ _ | .binOp _ _ _ _ _ | .unOp _ _ _ | .convert _ _ _ | .slice _ _ _ _ _ | .fieldAddr _ _ _ | .field _ _ _ | .indexAddr _ _ _ | .index _ _ _ | .extract _ _ | .lookup _ _ _ _ => true
  | .call c => (match c.callee with | .builtin .len => true | .builtin .cap => true | .builtin .max => true | .builtin .min => true | _ => false)
  | _ => false
theorem v_value {s : Sem Value} {n : Next} {w w' : World} (h : (do pure (Next.value (← s)) : Sem Next).run P w = .ok n w') : ∃ v, n = .value v := by
  rw [Sem.run_bind] at h
  cases hs : s.run P w with
  | ok u w1 =>
    rw [hs] at h
    simp only [Result.andThen_ok, Sem.run_pure] at h
    injection h with h1 h2
    exact ⟨u, h1.symm⟩
  | halt x w1 =>
    rw [hs] at h
    cases h
theorem p_value {s : Sem Bool} {a b : Value} {n : Next} {w w' : World} (h : (do pure (Next.value (if ← s then a else b)) : Sem Next).run P w = .ok n w') : ∃ v, n = .value v := by
  rw [Sem.run_bind] at h
  cases hs : s.run P w with
  | ok u w1 =>
    rw [hs] at h
    simp only [Result.andThen_ok, Sem.run_pure] at h
    injection h with h1 h2
    exact ⟨_, h1.symm⟩
  | halt x w1 =>
    rw [hs] at h
    cases h
theorem call_value {ρ : Operand → Value} {c : Call} {t : TypeId} {b : Builtin} (hb : b = .len ∨ b = .cap ∨ b = .max ∨ b = .min) (hc : c.callee = .builtin b) {n : Next} {w w' : World}
    (h : (do let d ← resolve ρ c t; invoke d.target d.args : Sem Next).run P w = .ok n w') : ∃ v, n = .value v := by
  rw [Sem.run_bind] at h
  unfold resolve at h
  simp only [hc, Sem.run_pure, Result.andThen_ok, invoke] at h
  rcases hb with rfl | rfl | rfl | rfl
  all_goals (simp only [builtin] at h; exact v_value h)
theorem calm_value {o : Oper} (hc : calmB o = true) {ρ : Operand → Value} {n : Next} {w w' : World} (h : (execOp ρ o).run P w = .ok n w') : ∃ v, n = .value v := by
  unfold calmB at hc
  unfold execOp at h
  split at hc
  all_goals (rename_i ho; try (rw [ho] at h))
  all_goals (first | exact v_value h | (simp only [Sem.run_pure] at h; injection h with h1 h2; exact ⟨_, h1.symm⟩) | exact p_value h | skip)
  · split at hc
    · rename_i hb; exact call_value (.inl rfl) hb h
    · rename_i hb; exact call_value (.inr (.inl rfl)) hb h
    · rename_i hb; exact call_value (.inr (.inr (.inl rfl))) hb h
    · rename_i hb; exact call_value (.inr (.inr (.inr rfl))) hb h
    · cases hc
  · cases hc
def stopPost : Exit → Act → World → Prop := fun _ _ _ => False
/-- Behind an operation that is not the last one. -/
def segPost (C : World → Prop) (next : Act → World → Prop) : Exit → Act → World → Prop
  | .normal, a, w => C w ∧ next a w
  | _, _, _ => False
theorem calm_at {o : Oper} {a : Act} {w : World} {v : Value} (hc : calmB o = true) (h : o.quietAt P a C w v) : (execOp a.eval o).run P w = .ok (.value v) w := by
  unfold Oper.quietAt at h
  generalize hr : (execOp a.eval o).run P w = r at h
  cases r with
  | ok n w' =>
    obtain ⟨u, rfl⟩ := calm_value hc hr
    obtain ⟨rfl, rfl⟩ := h
    rfl
  | halt x w' => exact (show False from h).elim
theorem yields_one {o : Oper} {a : Act} {w : World} {v v' : Value} (hc : calmB o = true) (hw : C w) (h : YieldsIn P ops C o v a) (h' : YieldsIn P ops C o v' a) : v = v' := by
  rcases h with ⟨h1, h2⟩ | ⟨h1, rfl⟩ <;> rcases h' with ⟨g1, g2⟩ | ⟨g1, rfl⟩
  · have e1 := calm_at hc (h2 w hw)
    rw [calm_at hc (g2 w hw)] at e1
    injection e1 with e1 _
    injection e1 with e1
    exact e1.symm
  · rw [h1] at g1; cases g1
  · rw [h1] at g1; cases g1
  · rfl
theorem lets_stop (h : LetsOut stopPost) : False := by
  obtain ⟨_, _, h⟩ := h
  exact h
theorem wpOp_putC {j : Nat} {oi oj : Oper} {v : Value} (hj : ops[j]? = some oj) (hap : oi.apart ops oj = true) (hsi : ∀ cs b, oi.op ≠ .select cs b) (hsj : ∀ cs b, oj.op ≠ .select cs b) {K : Act → World → Prop} {a : Act} {w : World}
    (hy : YieldsIn P ops C oi v a) (h : wpOp P ops stopPost j K (a.put oi.dst v) w) : wpOp P ops stopPost j (fun a' w' => YieldsIn P ops C oi v a' ∧ K (a'.put oi.dst v) w') a w := by
  obtain ⟨h1, h2, h3⟩ := Oper.apart_spec hap
  have keep : ∀ (a : Act), YieldsIn P ops C oi v a → ∀ u, YieldsIn P ops C oi v (a.put oj.dst u) := fun a hy u =>
    hy.of_same (execOp_put oi hsi a oj.dst u h3) (wanted_put oi a oj.dst u h3)
  have keepD : ∀ d, YieldsIn P ops C oi v { a with defers := d :: a.defers } := fun d => hy.of_same rfl rfl
  unfold wpOp at *
  simp only [hj] at *
  rw [wanted_put oj a oi.dst v h1] at h
  split
  · rename_i hw
    simp only [hw, if_true] at h
    rcases h with h | ⟨hasks, hlets⟩
    case inr => exact (lets_stop hlets).elim
    refine .inl ?_
    unfold Oper.wp at *
    rw [execOp_put oj hsj a oi.dst v h1] at h
    generalize (execOp a.eval oj).run P w = r at *
    cases r with
    | ok n w' =>
      cases n <;> simp only [Oper.upon] at h ⊢
      case value u => exact ⟨keep a hy u, by rw [← Act.put_comm a v u h2]; exact h⟩
      case skip => exact ⟨keep a hy _, by rw [← Act.put_comm a v undef h2]; exact h⟩
      case defer d =>
        refine ⟨keep _ (keepD d) _, ?_⟩
        rw [← Act.put_comm _ v undef h2, ← Act.put_defers]
        exact h
      case enter f args =>
        refine Calls.mono h fun e w'' he => ?_
        cases e with
        | returned u => exact ⟨keep a hy u, by rw [← Act.put_comm a v u h2]; exact he⟩
        | panicked c => exact he
        | outgrown => exact he
      case row row args => exact Rows.mono h fun u w'' he => ⟨keep a hy u, by rw [← Act.put_comm a v u h2]; exact he⟩
    | halt x w' =>
      cases x <;> simp only [Oper.upon] at h ⊢
      case panic u => exact h
  · rename_i hw
    simp only [hw] at h
    exact ⟨keep a hy _, by rw [← Act.put_comm a v undef h2]; exact h⟩
theorem wpOp_back {i : Nat} {oi oj : Oper} {v : Value} (hi : ops[i]? = some oi) (hap : oi.apart ops oj = true) (hsi : ∀ cs b, oi.op ≠ .select cs b) (hsj : ∀ cs b, oj.op ≠ .select cs b) {K K' : Act → World → Prop} {a : Act} {w : World}
    (hy : YieldsIn P ops C oj v a) (hK : ∀ a' w', YieldsIn P ops C oj v a' → K a' w' → K' (a'.put oj.dst v) w') (h : wpOp P ops stopPost i K a w) : wpOp P ops stopPost i K' (a.put oj.dst v) w := by
  obtain ⟨h3, h2, h1⟩ := Oper.apart_spec hap
  have h2' : ∀ d, oj.dst = some d → oi.dst ≠ some d := fun d hd he => h2 d he hd
  have keep : ∀ (a : Act), YieldsIn P ops C oj v a → ∀ u, YieldsIn P ops C oj v (a.put oi.dst u) := fun a hy u =>
    hy.of_same (execOp_put oj hsj a oi.dst u h3) (wanted_put oj a oi.dst u h3)
  have keepD : ∀ d, YieldsIn P ops C oj v { a with defers := d :: a.defers } := fun d => hy.of_same rfl rfl
  unfold wpOp at *
  simp only [hi] at *
  rw [wanted_put oi a oj.dst v h1]
  split
  · rename_i hw
    simp only [hw, if_true] at h
    rcases h with h | ⟨hasks, hlets⟩
    case inr => exact (lets_stop hlets).elim
    refine .inl ?_
    unfold Oper.wp at *
    rw [execOp_put oi hsi a oj.dst v h1]
    generalize (execOp a.eval oi).run P w = r at *
    cases r with
    | ok n w' =>
      cases n <;> simp only [Oper.upon] at h ⊢
      case value u => rw [Act.put_comm a v u h2']; exact hK _ _ (keep a hy u) h
      case skip => rw [Act.put_comm a v undef h2']; exact hK _ _ (keep a hy _) h
      case defer d =>
        have := hK _ _ (keep _ (keepD d) _) h
        rw [← Act.put_comm _ v undef h2', ← Act.put_defers] at this
        exact this
      case enter f args =>
        refine Calls.mono h fun e w'' he => ?_
        cases e with
        | returned u =>
          simp only [] at he ⊢
          rw [Act.put_comm a v u h2']; exact hK _ _ (keep a hy u) he
        | panicked c => exact he
        | outgrown => exact he
      case row row args => exact Rows.mono h fun u w'' he => by rw [Act.put_comm a v u h2']; exact hK _ _ (keep a hy u) he
    | halt x w' =>
      cases x <;> simp only [Oper.upon] at h ⊢
      case panic u => exact h
  · rename_i hw
    simp only [hw] at h
    rw [Act.put_comm a v undef h2']
    exact hK _ _ (keep a hy _) h
theorem wpOp_some {i : Nat} {oi : Oper} (hi : ops[i]? = some oi) {K : Act → World → Prop} {a : Act} {w : World} (h : wpOp P ops stopPost i K a w) :
    ∃ a0 u w', K (a0.put oi.dst u) w' ∧ (a0 = a ∨ ∃ d, a0 = { a with defers := d :: a.defers }) := by
  unfold wpOp at h
  simp only [hi] at h
  split at h
  · rcases h with h | ⟨_, hlets⟩
    case inr => exact (lets_stop hlets).elim
    unfold Oper.wp at h
    generalize (execOp a.eval oi).run P w = r at *
    cases r with
    | ok n w' =>
      cases n <;> simp only [Oper.upon] at h
      case value u => exact ⟨a, u, w', h, .inl rfl⟩
      case skip => exact ⟨a, _, w', h, .inl rfl⟩
      case defer d => exact ⟨_, _, w', h, .inr ⟨d, rfl⟩⟩
      case enter f args =>
        obtain ⟨e, w'', fr, he, _⟩ := h []
        cases e with
        | returned u => exact ⟨a, u, w'', he, .inl rfl⟩
        | panicked c => exact (show False from he).elim
        | outgrown => exact (lets_stop he).elim
      case row row args =>
        obtain ⟨v, w'', he, _⟩ := h (Frame.ofRow P row args .normal) []
        exact ⟨a, v, w'', he, .inl rfl⟩
    | halt x w' =>
      cases x <;> simp only [Oper.upon] at h
      case panic u => exact (show False from h).elim
  · exact ⟨a, _, w, h, .inl rfl⟩
theorem wp_stop {o : Oper} {K : Act → World → Prop} {Q : Exit → Act → World → Prop} {a : Act} {w : World} (h : o.wp P a w K stopPost) : o.wp P a w K Q := by
  unfold Oper.wp at *
  generalize (execOp a.eval o).run P w = r at *
  cases r with
  | ok n w' =>
    cases n <;> simp only [Oper.upon] at h ⊢ <;> try exact h
    refine Calls.mono h fun e w'' he => ?_
    cases e with
    | returned u => exact he
    | panicked c => exact (show False from he).elim
    | outgrown => exact (lets_stop he).elim
  | halt x w' =>
    cases x <;> simp only [Oper.upon] at h ⊢
    case panic u => exact (show False from h).elim
theorem wpOp_stop {i : Nat} {K : Act → World → Prop} {Q : Exit → Act → World → Prop} {a : Act} {w : World} (h : wpOp P ops stopPost i K a w) : wpOp P ops Q i K a w := by
  unfold wpOp at *
  split
  · rename_i ho; simp only [ho] at h; exact h
  · rename_i o ho
    simp only [ho] at h
    split
    · rename_i hw
      simp only [hw, if_true] at h
      rcases h with h | ⟨_, hlets⟩
      · exact .inl (wp_stop h)
      · exact (lets_stop hlets).elim
    · rename_i hw
      simp only [hw] at h
      exact h
/-- The operations of R that are not listed yet, in the order of the text: those of ks one behind the other, the others without touching the world. -/
def wpMix (P : Program) (ops : Array Oper) (C : World → Prop) (ks : Nat → Bool) (K : Act → World → Prop) (listed : Array Bool) : List Nat → Act → World → Prop
  | [], a, w => K a w
  | i :: R, a, w => if listed.getD i false = true then wpMix P ops C ks K listed R a w
    else if ks i = true then wpOp P ops stopPost i (fun a' w' => C w' ∧ wpMix P ops C ks K listed R a' w') a w
    else qOp P ops C i (fun a' => wpMix P ops C ks K listed R a' w) a
theorem wpMix_congr {ks : Nat → Bool} {K : Act → World → Prop} {l1 l2 : Array Bool} : ∀ {R : List Nat}, (∀ i, i ∈ R → l1.getD i false = l2.getD i false) → wpMix P ops C ks K l1 R = wpMix P ops C ks K l2 R := by
  intro R
  induction R with
  | nil => intro _; rfl
  | cons i R ih =>
    intro h
    have e := ih (fun i hi => h i (List.mem_cons_of_mem _ hi))
    funext a w
    simp only [wpMix, e, h i List.mem_cons_self]
theorem pull {ks : Nat → Bool} {K : Act → World → Prop} (hsel : ∀ (j : Nat) (o : Oper) cs b, ops[j]? = some o → o.op ≠ .select cs b) (hcalm : ∀ i o, ops[i]? = some o → ks i = false → calmB o = true)
    {listed : Array Bool} {j : Nat} {oj : Oper} (hj : ops[j]? = some oj) (hjl : listed.getD j false = false) (hjs : j < listed.size) :
    ∀ R : List Nat, R.Pairwise (· < ·) → j ∈ R → (∀ i, i ∈ R → i < j → listed.getD i false = false → ∃ oi, ops[i]? = some oi ∧ oi.apart ops oj = true) → (ks j = true → ∀ i, i ∈ R → i < j → listed.getD i false = false → ks i = false) →
    ∀ (a : Act) (w : World), C w → wpMix P ops C ks K listed R a w → if ks j = true then wpOp P ops stopPost j (fun a' w' => C w' ∧ wpMix P ops C ks K (listed.setIfInBounds j true) R a' w') a w else qOp P ops C j (fun a' => wpMix P ops C ks K (listed.setIfInBounds j true) R a' w) a := by
  intro R
  induction R with
  | nil => intro _ h; cases h
  | cons i R ih =>
    intro hp hm hap hch a w hC h
    have hjt : (listed.setIfInBounds j true).getD j false = true := by simp [Array.getD_eq_getD_getElem?, hjs]
    obtain ⟨hlt, hpR⟩ := List.pairwise_cons.1 hp
    by_cases hij : i = j
    · subst hij
      have hni : i ∉ R := fun hi => absurd (hlt i hi) (Nat.lt_irrefl _)
      have e : wpMix P ops C ks K (listed.setIfInBounds i true) (i :: R) = wpMix P ops C ks K listed R := by
        funext a w
        simp only [wpMix, hjt, if_true]
        rw [wpMix_congr (fun k hk => getD_set_ne false (fun (e : i = k) => hni (by rw [e]; exact hk)))]
      rw [e]
      simp only [wpMix, hjl, Bool.false_eq_true, if_false] at h
      exact h
    · have hjR : j ∈ R := by
        rcases List.mem_cons.1 hm with h1 | h1
        · exact absurd h1.symm hij
        · exact h1
      have hi_lt := hlt j hjR
      have ih' := ih hpR hjR (fun k hk => hap k (List.mem_cons_of_mem _ hk)) (fun h k hk => hch h k (List.mem_cons_of_mem _ hk))
      have hset : (listed.setIfInBounds j true).getD i false = listed.getD i false := getD_set_ne false (fun e => hij e.symm)
      by_cases hl : listed.getD i false = true
      · simp only [wpMix, hset, hl, if_true] at h ⊢
        exact ih' a w hC h
      · have hl' : listed.getD i false = false := by simpa using hl
        obtain ⟨oi, hoi, hapi⟩ := hap i List.mem_cons_self hi_lt hl'
        simp only [wpMix, hset, hl', Bool.false_eq_true, if_false] at h ⊢
        by_cases hk : ks i = true
        · have hkj : ks j = false := by
            cases hkj : ks j with
            | false => rfl
            | true =>
              have := hch hkj i List.mem_cons_self hi_lt hl'
              rw [hk] at this
              cases this
          simp only [hkj, Bool.false_eq_true, if_false] at ih' ⊢
          rw [if_pos hk] at h
          obtain ⟨a0, u, w1, ⟨hC1, h1⟩, ha0⟩ := wpOp_some hoi h
          obtain ⟨v, hy, _⟩ := yieldsIn_of_qOp hj (ih' _ _ hC1 h1)
          obtain ⟨g1, g2, g3⟩ := Oper.apart_spec hapi
          have hy0 : YieldsIn P ops C oj v a0 := hy.of_same (execOp_put oj (fun cs b => hsel j oj cs b hj) a0 oi.dst u g1).symm (wanted_put oj a0 oi.dst u g1).symm
          have hya : YieldsIn P ops C oj v a := by
            rcases ha0 with rfl | ⟨d, rfl⟩
            · exact hy0
            · exact hy0.of_same rfl rfl
          refine hya.qOp hj ?_
          rw [if_pos hk]
          refine wpOp_back hoi hapi (fun cs b => hsel i oi cs b hoi) (fun cs b => hsel j oj cs b hj) hya (fun a' w' hy' hh => ⟨hh.1, ?_⟩) h
          obtain ⟨v', hv', hn⟩ := yieldsIn_of_qOp hj (ih' _ _ hh.1 hh.2)
          rw [yields_one (hcalm j oj hj hkj) hh.1 hy' hv']
          exact hn
        · have hk' : ks i = false := by simpa using hk
          simp only [hk', Bool.false_eq_true, if_false] at h ⊢
          obtain ⟨v, hy, hn⟩ := yieldsIn_of_qOp hoi h
          have h2 := ih' _ _ hC hn
          by_cases hkj : ks j = true
          · rw [if_pos hkj] at h2 ⊢
            refine wpOp_mono ?_ (wpOp_putC hj hapi (fun cs b => hsel i oi cs b hoi) (fun cs b => hsel j oj cs b hj) hy h2)
            rintro a' w' ⟨hy', hC', hm'⟩
            exact ⟨hC', hy'.qOp hoi hm'⟩
          · rw [if_neg hkj] at h2 ⊢
            refine qOp_mono ?_ (qOp_put hj hapi (fun cs b => hsel i oi cs b hoi) (fun cs b => hsel j oj cs b hj) hy h2)
            rintro a' ⟨hy', hm'⟩
            exact hy'.qOp hoi hm'
theorem wpOp_calm {i : Nat} {oi : Oper} {Q : Exit → Act → World → Prop} {K : Act → Prop} {a : Act} {w : World} (hi : ops[i]? = some oi) (hc : calmB oi = true) (hC : C w) (h : qOp P ops C i K a) : wpOp P ops Q i (fun a' w' => w' = w ∧ K a') a w := by
  obtain ⟨v, hy, hK⟩ := yieldsIn_of_qOp hi h
  unfold wpOp
  simp only [hi]
  rcases hy with ⟨hw, hv⟩ | ⟨hw, rfl⟩
  · rw [if_pos hw]
    refine .inl ?_
    unfold Oper.wp
    rw [calm_at hc (hv w hC)]
    exact ⟨by first | rfl | trivial, hK⟩
  · rw [if_neg (by simp [hw])]
    exact ⟨by first | rfl | trivial, hK⟩
/-- Operation j waits, straight or over others between, for operation i. -/
def linkB (md : Region.Mode) (ops : Array Oper) : Nat → Nat → Nat → Bool
  | 0, _, _ => false
  | f + 1, j, i => Region.waitsFor md ops j i || (List.range' (i + 1) (j - (i + 1))).any (fun k => Region.waitsFor md ops j k && linkB md ops f k i)
theorem link_listed {n : Nat} {listed : Array Bool} (inv : HeadInv md ops n listed) : ∀ (f j i : Nat), linkB md ops f j i = true → listed.getD j false = true → listed.getD i false = true := by
  have hw : ∀ j i, Region.waitsFor md ops j i = true → listed.getD j false = true → listed.getD i false = true := fun j i h hj => by
    obtain ⟨oj, hoj, e, he, hb, hon⟩ := Region.waitsFor_spec h
    have := inv.closed j oj hoj hj e he hb
    rwa [hon] at this
  intro f
  induction f with
  | zero => intro j i h; cases h
  | succ f ih =>
    intro j i h hj
    simp only [linkB, Bool.or_eq_true, List.any_eq_true, Bool.and_eq_true] at h
    rcases h with h | ⟨k, _, h1, h2⟩
    · exact hw j i h hj
    · exact ih k i h2 (hw j k h1 hj)
theorem link_ready {n : Nat} {listed : Array Bool} (inv : HeadInv md ops n listed) {f j i : Nat} (h : linkB md ops f j i = true) (hj : j ∈ Region.ready md ops listed) : listed.getD i false = true := by
  obtain ⟨_, oj, hoj, hall⟩ := mem_ready.1 hj
  have hw : ∀ i, Region.waitsFor md ops j i = true → listed.getD i false = true := fun i h => by
    obtain ⟨o', ho', e, he, hb, hon⟩ := Region.waitsFor_spec h
    obtain rfl : o' = oj := Option.some.inj (ho'.symm.trans hoj)
    have := hall e he hb
    rwa [hon] at this
  cases f with
  | zero => cases h
  | succ f =>
    simp only [linkB, Bool.or_eq_true, List.any_eq_true, Bool.and_eq_true] at h
    rcases h with h | ⟨k, _, h1, h2⟩
    · exact hw i h
    · exact link_listed inv f k i h2 (hw k h1)
def linksB (md : Region.Mode) (ops : Array Oper) : List Nat → Bool
  | a :: b :: r => decide (a < b) && linkB md ops (b - a) b a && linksB md ops (b :: r)
  | _ => true
theorem links_order {n : Nat} {listed : Array Bool} (inv : HeadInv md ops n listed) : ∀ {l : List Nat}, linksB md ops l = true → ∀ i j, i ∈ l → j ∈ l → i < j → (j ∈ Region.ready md ops listed ∨ listed.getD j false = true) → listed.getD i false = true := by
  intro l
  induction l with
  | nil => intro _ i j hi; cases hi
  | cons a l ih =>
    intro h i j hi hj hlt hr
    cases l with
    | nil =>
      simp only [List.mem_cons, List.not_mem_nil, or_false] at hi hj
      omega
    | cons b r =>
      simp only [linksB, Bool.and_eq_true, decide_eq_true_eq] at h
      obtain ⟨⟨hab, hl⟩, hb⟩ := h
      have hsorted : ∀ k, k ∈ b :: r → b ≤ k := by
        have : ∀ (l : List Nat) (b : Nat), linksB md ops (b :: l) = true → ∀ k, k ∈ b :: l → b ≤ k := by
          intro l
          induction l with
          | nil => intro b _ k hk; simp at hk; omega
          | cons c l ih =>
            intro b h k hk
            simp only [linksB, Bool.and_eq_true, decide_eq_true_eq] at h
            rcases List.mem_cons.1 hk with rfl | hk
            · exact Nat.le_refl _
            · have := ih c h.2 k hk; omega
        exact this r b hb
      rcases List.mem_cons.1 hi with rfl | hi'
      · have hjb : j ∈ b :: r := by
          rcases List.mem_cons.1 hj with h1 | h1
          · omega
          · exact h1
        have hbj := hsorted j hjb
        by_cases hbe : j = b
        · subst hbe
          rcases hr with hr | hr
          · exact link_ready inv hl hr
          · exact link_listed inv _ _ _ hl hr
        · have := ih hb b j List.mem_cons_self hjb (by omega) hr
          exact link_listed inv _ _ _ hl this
      · have hib := hsorted i hi'
        refine ih hb i j hi' ?_ hlt hr
        rcases List.mem_cons.1 hj with h1 | h1
        · omega
        · exact h1
def apartAllB (md : Region.Mode) (ops : Array Oper) : Bool := (List.range ops.size).all fun j => (List.range j).all fun i => Region.waitsFor md ops j i || (match ops[i]?, ops[j]? with | some oi, some oj => oi.apart ops oj | _, _ => true)
theorem apartAll_out (h : apartAllB md ops = true) {i j : Nat} {oi oj : Oper} (hij : i < j) (hi : ops[i]? = some oi) (hj : ops[j]? = some oj) (hw : Region.waitsFor md ops j i = false) : oi.apart ops oj = true := by
  unfold apartAllB at h
  rw [List.all_eq_true] at h
  have h1 := h j (List.mem_range.2 (Array.getElem?_eq_some_iff.1 hj).1)
  rw [List.all_eq_true] at h1
  have h2 := h1 i (List.mem_range.2 hij)
  rw [hw, hi, hj] at h2
  simpa using h2
def canonL (t n : Nat) : Array Bool := (List.replicate t true ++ List.replicate (n - t) false).toArray
/-- What is asked of a region's operations: t: where the tail begins; l: those ahead of it that go one behind the other. -/
def mixB (md : Region.Mode) (ops : Array Oper) (t : Nat) (l : List Nat) : Bool :=
  Region.noSelect ops && decide (t < ops.size) && Region.sinkB md ops t && Region.chainB md ops t && apartAllB md ops && earlyB md ops.toList && linksB md ops l && (List.range t).all (fun i => l.contains i || (match ops[i]? with | some o => calmB o | none => true)) && Region.seqB md ops (ops.size - t) t (canonL t ops.size)
theorem mix_any {Q : Exit → Act → World → Prop} {t : Nat} {l : List Nat} (hB : mixB md ops t l = true) :
    ∀ (f : Nat) (listed : Array Bool) (a : Act) (w : World), listed.toList.count false = f → HeadInv md ops t listed → C w →
      wpMix P ops C (fun i => l.contains i || decide (t ≤ i)) (wpList P ops Q (ops.toList.drop t)) listed (List.range t) a w → wpAny P md ops Q f listed a w := by
  simp only [mixB, Bool.and_eq_true, decide_eq_true_eq] at hB
  obtain ⟨⟨⟨⟨⟨⟨⟨⟨hsel, hn⟩, hs⟩, hc⟩, hap⟩, hear⟩, hl⟩, hcm⟩, hseq⟩ := hB
  have hsel' := Region.noSelect_spec hsel
  have hcalm : ∀ i o, ops[i]? = some o → (l.contains i || decide (t ≤ i)) = false → calmB o = true := fun i o ho hk => by
    rw [Bool.or_eq_false_iff, decide_eq_false_iff_not] at hk
    rw [List.all_eq_true] at hcm
    have := hcm i (List.mem_range.2 (by omega))
    rw [hk.1, ho] at this
    simpa using this
  intro f
  induction f with
  | zero =>
    intro listed a w hf inv hC h
    exfalso
    have h1 := inv.tail t (Nat.le_refl _) hn
    have h2 : t < listed.size := by rw [inv.size]; exact hn
    have h3 : listed[t] = false := by simpa [Array.getD_eq_getD_getElem?, h2] using h1
    have h4 : false ∈ listed.toList := by rw [← h3]; simp
    have := List.count_pos_iff.2 h4
    omega
  | succ f ih =>
    intro listed a w hf inv hC h
    by_cases hall : ∀ i, i < t → listed.getD i false = true
    · have hcan : listed = canonL t ops.size := by
        apply Array.ext
        · rw [inv.size]; simp [canonL]; omega
        · intro i h1 h2
          by_cases hi : i < t
          · have := hall i hi
            have e : listed[i] = true := by simpa [Array.getD_eq_getD_getElem?, h1] using this
            rw [e]
            simp [canonL, hi, List.getElem_append]
          · have := inv.tail i (by omega) (by rw [← inv.size]; exact h1)
            have e : listed[i] = false := by simpa [Array.getD_eq_getD_getElem?, h1] using this
            rw [e]
            simp [canonL, hi, List.getElem_append]
      have hK : wpList P ops Q (ops.toList.drop t) a w := by
        have : ∀ R : List Nat, (∀ i, i ∈ R → i < t) → wpMix P ops C (fun i => l.contains i || decide (t ≤ i)) (wpList P ops Q (ops.toList.drop t)) listed R a w → wpList P ops Q (ops.toList.drop t) a w := by
          intro R
          induction R with
          | nil => intro _ h; exact h
          | cons i R ihR =>
            intro hR h
            simp only [wpMix, hall i (hR i List.mem_cons_self), if_true] at h
            exact ihR (fun k hk => hR k (List.mem_cons_of_mem _ hk)) h
        exact this _ (fun i hi => List.mem_range.1 hi) h
      have hlen : (ops.toList.drop t).length = f + 1 := by
        rw [← hf, hcan]
        simp [canonL, List.count_append, List.count_replicate]
      have hdl : (ops.toList.drop t).length = ops.size - t := by simp
      have := wpAny_of_seq (P := P) (md := md) (Q' := Q) (ops.toList.drop t) t listed a w (fun j => by simp [List.getElem?_drop]) (by rw [hdl, hcan]; exact hseq) hK
      rwa [hlen] at this
    · have hex : ∃ i, i < t ∧ listed.getD i false = false := by
        apply Classical.byContradiction
        intro hno
        refine hall fun i hi => ?_
        cases hg : listed.getD i false with
        | true => rfl
        | false => exact (hno ⟨i, hi, hg⟩).elim
      obtain ⟨i0, hi0, hg0⟩ := hex
      have hun0 : listed.getD i0 true = false := getD_in (by rw [inv.size]; omega) hg0
      have hjt : ∀ j, j ∈ Region.ready md ops listed → j < t := fun j hj => Nat.lt_of_not_le fun hle => tail_waits hs hc hn inv _ i0 rfl hi0 hun0 j hle hj
      refine ⟨fun hr => ?_, fun j hj => ?_⟩
      · -- something is ready: the first one that is not listed
        exfalso
        have hlow : ∀ n, n ≤ t → ∀ i, i < n → listed.getD i false = true := by
          intro n
          induction n with
          | zero => intro _ i hi; omega
          | succ n ihn =>
            intro hn' i hi
            by_cases hin : i < n
            · exact ihn (by omega) i hin
            · obtain rfl : i = n := by omega
              cases hg : listed.getD i false with
              | true => rfl
              | false =>
                exfalso
                have hm : i ∈ Region.ready md ops listed := by
                  rw [mem_ready]
                  have his : i < ops.size := by omega
                  refine ⟨getD_in (by rw [inv.size]; exact his) hg, ops[i], by simp [his], fun e he hb => ?_⟩
                  exact ihn (by omega) e.on (earlyB_out hear i ops[i] (by simp [his]) e he hb)
                rw [hr] at hm
                cases hm
        have := hlow t (Nat.le_refl _) i0 hi0
        rw [hg0] at this
        cases this
      · have hj' := hjt j hj
        obtain ⟨hun, oj, hoj, hdep⟩ := mem_ready.1 hj
        have hjs : j < listed.size := by rw [inv.size]; omega
        have hjl : listed.getD j false = false := getD_both hun
        have hwt : ∀ i, listed.getD i false = false → Region.waitsFor md ops j i = false := fun i hi => by
          cases hw : Region.waitsFor md ops j i with
          | false => rfl
          | true =>
            obtain ⟨o', ho', e, he, hb, hon⟩ := Region.waitsFor_spec hw
            obtain rfl : o' = oj := Option.some.inj (ho'.symm.trans hoj)
            have := hdep e he hb
            rw [hon, hi] at this
            cases this
        have hp := pull (P := P) (ops := ops) (C := C) (ks := fun i => l.contains i || decide (t ≤ i)) (K := wpList P ops Q (ops.toList.drop t)) hsel' hcalm hoj hjl hjs (List.range t) List.pairwise_lt_range (List.mem_range.2 hj')
          (fun i hi hij hil => by
            have his : i < ops.size := by omega
            exact ⟨ops[i], by simp [his], apartAll_out hap hij (by simp [his]) hoj (hwt i hil)⟩)
          (fun hk i hi hij hil => by
            simp only [Bool.or_eq_true, List.contains_iff_mem, decide_eq_true_eq] at hk
            rw [Bool.or_eq_false_iff, decide_eq_false_iff_not]
            refine ⟨?_, by omega⟩
            cases hci : l.contains i with
            | false => rfl
            | true =>
              have := links_order inv hl i j (by simpa using hci) (by rcases hk with hk | hk; exact hk; omega) hij (.inl hj)
              rw [hil] at this
              cases this) a w hC h
        have hcs : (listed.setIfInBounds j true).toList.count false = f := by
          have h3 : listed[j] = false := by simpa [Array.getD_eq_getD_getElem?, hjs] using hun
          have := cnt_set listed.toList j (by simp [hjs, h3])
          rw [Array.toList_setIfInBounds]
          omega
        by_cases hk : (l.contains j || decide (t ≤ j)) = true
        · rw [if_pos hk] at hp
          exact wpOp_stop (wpOp_mono (fun a' w' hh => ih _ a' w' hcs (inv.set hj hj') hh.1 hh.2) hp)
        · rw [if_neg hk] at hp
          refine wpOp_mono ?_ (wpOp_calm hoj (hcalm j oj hoj (by simpa using hk)) hC hp)
          rintro a' w' ⟨rfl, hh⟩
          exact ih _ a' _ hcs (inv.set hj hj') hC hh
/-- The walk: ms: how many operations read ahead of each one that makes memory or calls; r: how many read behind the last one; then the tail. -/
def wpSegs (P : Program) (ops : Array Oper) (C : World → Prop) (Q : Exit → Act → World → Prop) (r : Nat) : List Nat → List Oper → Act → World → Prop
  | [], l, a, w => wpQuiet P ops C (fun a' => wpList P ops Q (l.drop r) a' w) (l.take r) a
  | m :: ms, l, a, w => wpQuiet P ops C (fun a' => wpList P ops (segPost C (wpSegs P ops C Q r ms (l.drop (m + 1)))) ((l.drop m).take 1) a' w) (l.take m) a
theorem seg_next {next : Act → World → Prop} {a : Act} {w : World} (hC : C w) (h : next a w) : segPost C next .normal a w := ⟨hC, h⟩
def chainAt : Nat → List Nat → List Nat
  | _, [] => []
  | p, m :: ms => (p + m) :: chainAt (p + m + 1) ms
def endAt (r : Nat) : Nat → List Nat → Nat
  | p, [] => p + r
  | p, m :: ms => endAt r (p + m + 1) ms
theorem endAt_le (r : Nat) : ∀ (ms : List Nat) (p : Nat), p ≤ endAt r p ms := by
  intro ms
  induction ms with
  | nil => intro p; exact Nat.le_add_right _ _
  | cons m ms ih => intro p; have := ih (p + m + 1); simp only [endAt]; omega
theorem chainAt_ge : ∀ (ms : List Nat) (p i : Nat), i ∈ chainAt p ms → p ≤ i := by
  intro ms
  induction ms with
  | nil => intro p i h; cases h
  | cons m ms ih =>
    intro p i h
    rcases List.mem_cons.1 h with rfl | h
    · exact Nat.le_add_right _ _
    · have := ih _ _ h; omega
theorem quiet_mix {ks : Nat → Bool} {K : Act → World → Prop} {listed : Array Bool} {N : Act → Prop} {w : World} {R : List Nat} (hlist : ∀ i, listed.getD i false = false) :
    ∀ (m p : Nat) (a : Act), p + m ≤ ops.size → (∀ i, p ≤ i → i < p + m → ks i = false) → (∀ a, N a → wpMix P ops C ks K listed R a w) → wpQuiet P ops C N ((ops.toList.drop p).take m) a →
      wpMix P ops C ks K listed (List.range' p m ++ R) a w := by
  intro m
  induction m with
  | zero =>
    intro p a _ _ hN h
    simp only [List.take_zero] at h
    exact hN a h
  | succ m ih =>
    intro p a hp hk hN h
    have hps : p < ops.size := by omega
    have e : (ops.toList.drop p).take (m + 1) = ops[p] :: (ops.toList.drop (p + 1)).take m := by
      rw [List.drop_eq_getElem_cons (by simpa using hps), List.take_succ_cons]
      rfl
    rw [e] at h
    rw [List.range'_succ, List.cons_append]
    simp only [wpMix, hlist p, hk p (Nat.le_refl _) (by omega), Bool.false_eq_true, if_false]
    unfold wpQuiet at h
    unfold qOp
    simp only [show ops[p]? = some ops[p] by simp [hps]]
    have ih' : ∀ a, wpQuiet P ops C N ((ops.toList.drop (p + 1)).take m) a → wpMix P ops C ks K listed (List.range' (p + 1) m ++ R) a w := fun a' h' => ih (p + 1) a' (by omega) (fun i h1 h2 => hk i (by omega) (by omega)) hN h'
    split
    · rename_i hw
      rw [if_pos hw] at h
      exact Oper.quiet_mono ih' h
    · rename_i hw
      rw [if_neg hw] at h
      exact ih' _ h
theorem segs_mix {Q : Exit → Act → World → Prop} {ks : Nat → Bool} {listed : Array Bool} {t : Nat} (r : Nat) (ht : t ≤ ops.size) (hlist : ∀ i, listed.getD i false = false) :
    ∀ (ms : List Nat) (p : Nat) (a : Act) (w : World), endAt r p ms = t → (∀ i, p ≤ i → i < t → ks i = (chainAt p ms).contains i) → wpSegs P ops C Q r ms (ops.toList.drop p) a w →
      wpMix P ops C ks (wpList P ops Q (ops.toList.drop t)) listed (List.range' p (t - p)) a w := by
  intro ms
  induction ms with
  | nil =>
    intro p a w he hk h
    simp only [endAt] at he
    subst he
    have e : List.range' p (p + r - p) = List.range' p r ++ [] := by simp
    rw [e]
    refine quiet_mix hlist r p a ht (fun i h1 h2 => by rw [hk i h1 h2]; simp [chainAt]) ?_ h
    intro a' h'
    simp only [wpMix]
    rwa [List.drop_drop] at h'
  | cons m ms ih =>
    intro p a w he hk h
    simp only [endAt] at he
    have hle := endAt_le r ms (p + m + 1)
    have e : List.range' p (t - p) = List.range' p m ++ ((p + m) :: List.range' (p + m + 1) (t - (p + m + 1))) := by
      have e1 : t - p = m + (1 + (t - (p + m + 1))) := by omega
      rw [e1, ← List.range'_append_1, ← List.range'_append_1]
      simp
    rw [e]
    refine quiet_mix hlist m p a (by omega) (fun i h1 h2 => ?_) ?_ h
    · rw [hk i h1 (by omega)]
      simp only [chainAt]
      cases hc : ((p + m) :: chainAt (p + m + 1) ms).contains i with
      | false => rfl
      | true =>
        exfalso
        have hm : i ∈ (p + m) :: chainAt (p + m + 1) ms := by simpa using hc
        rcases List.mem_cons.1 hm with h3 | h3
        · omega
        · have := chainAt_ge _ _ _ h3; omega
    · intro a' h'
      have hps : p + m < ops.size := by omega
      have hkp : ks (p + m) = true := by rw [hk (p + m) (by omega) (by omega)]; simp [chainAt]
      simp only [wpMix, hlist (p + m), hkp, Bool.false_eq_true, if_false, if_true]
      have e2 : ((ops.toList.drop p).drop m).take 1 = [ops[p + m]] := by
        rw [List.drop_drop, List.drop_eq_getElem_cons (by simpa using hps), List.take_succ_cons, List.take_zero]
        rfl
      rw [e2] at h'
      have ih' := fun a w h => ih (p + m + 1) a w he (fun i h1 h2 => by
        rw [hk i (by omega) h2]
        simp only [chainAt, List.contains_cons]
        rw [show (i == p + m) = false by simp; omega]
        rfl) h
      have e3 : (ops.toList.drop p).drop (m + 1) = ops.toList.drop (p + m + 1) := by rw [List.drop_drop]; rfl
      rw [e3] at h'
      unfold wpList at h'
      unfold wpOp
      simp only [show ops[p + m]? = some ops[p + m] by simp [hps]]
      have hfin : ∀ a w, wpList P ops (segPost C (wpSegs P ops C Q r ms (ops.toList.drop (p + m + 1)))) [] a w → C w ∧ wpMix P ops C ks (wpList P ops Q (ops.toList.drop t)) listed (List.range' (p + m + 1) (t - (p + m + 1))) a w := fun a w h => ⟨h.1, ih' a w h.2⟩
      have hlets : LetsOut (segPost C (wpSegs P ops C Q r ms (ops.toList.drop (p + m + 1)))) → LetsOut stopPost := fun ⟨_, _, h⟩ => (show False from h).elim
      split
      · rename_i hw
        rw [if_pos hw] at h'
        rcases h' with h' | ⟨h1, h2⟩
        · refine .inl (Oper.wp_mono hfin ?_)
          unfold Oper.wp at *
          generalize (execOp a'.eval ops[p + m]).run P w = rr at *
          cases rr with
          | ok n w' =>
            cases n <;> simp only [Oper.upon] at h' ⊢ <;> try exact h'
          | halt x w' =>
            cases x <;> simp only [Oper.upon] at h' ⊢
            all_goals (try exact (show False from h').elim)
        · exact .inr ⟨h1, hlets h2⟩
      · rename_i hw
        rw [if_neg hw] at h'
        exact hfin _ _ h'
/-- The region. -/
theorem wp_region_mix {id : Nat} {Q : Exit → Act → World → Prop} {a : Act} {w : World} {l : List Oper} (r : Nat) (ms : List Nat) (hm : P.follows .mixedOrders = true) (hB : mixB .any l.toArray (endAt r 0 ms) (chainAt 0 ms) = true)
    (hend : endAt r 0 ms ≤ l.length) (h : wpSegs P l.toArray (fun w' => ∃ g, w' = grow w g) Q r ms l a w.drew) : (Code.region id l.toArray true).wp P Q a w := by
  refine wp_region_any hm ?_
  have hin : ∀ i, (Array.replicate l.toArray.size false).getD i false = false := fun i => getD_replicate_false _ _
  refine mix_any (C := fun w' => ∃ g, w' = grow w g) hB _ _ a w.drew (by simp [List.count_replicate]) ⟨by simp, fun j oj _ hl => (by rw [hin] at hl; cases hl), fun t _ ht => getD_in (by simpa using ht) (hin t)⟩ ⟨w.drew, (grow_eq (Below.drew (Below.refl _ _))).symm⟩ ?_
  have := segs_mix (P := P) (ops := l.toArray) (C := fun w' => ∃ g, w' = grow w g) (Q := Q) (ks := fun i => (chainAt 0 ms).contains i || decide (endAt r 0 ms ≤ i)) (listed := Array.replicate l.toArray.size false) (t := endAt r 0 ms) r (by simpa using hend) hin ms 0 a w.drew rfl
    (fun i _ h2 => by simp [Nat.not_le.2 h2]) (by simpa using h)
  rwa [Nat.sub_zero, ← List.range_eq_range'] at this
theorem grow_to {w w' : World} (h : Below w.heap.size w w') : ∃ g, w' = grow w g := ⟨w', (grow_eq h).symm⟩
end
end Go.Proofs.YtffkmgjmlahfpaaGreat
set_option linter.unusedVariables false
set_option linter.unusedSimpArgs false
namespace Go.Proofs.YtffkmgjmlahfpaaGreat
open Go.RowKit
set_option maxRecDepth 20000 in
set_option maxHeartbeats 4000000 in
theorem rrun_in (l : List BarR) (r : Rn) (k0 : Nat) (b : BarR) (A : Option Addr) (n c : Nat) (B : Nat) (w : World) (hB : B ≤ w.heap.size) (hA : BarsAt w B A n l) (h : S.rightHead (bars l) r = true) (h' : S.rightStep r = true) (hk0 : S.index (bars l) r.mark = (k0 : Int)) (hbk : l[k0]? = some b) (hv : S.bar b.b = true) :
    Calls Tryz.prog 115 #[.slice A n c, rnV r] w fun e w' => e = .returned (.bool (S.near (S.laidPath b.b r 0) 1048576 && S.near (S.laidPath b.b r (r.count - 1).toNat) 1048576)) ∧ Below w.heap.size w w' := by
  have HA := Lib.hid hA
  obtain ⟨⟨h0, h1, h2⟩, h3, h4⟩ := rightHead_out h
  obtain ⟨hkx, hkb⟩ := List.getElem?_eq_some_iff.1 hbk
  have hkn : k0 < n := by have := hA.len; omega
  have hs' := hA.cells
  obtain ⟨bb, o, rfl, hbb, _⟩ := hs'.at_ (by rw [flat_len barC 5 barC_len]; omega)
  have hbb' : bb < w.heap.size := by omega
  have c0 := hs'.row0 barC_len hkx rfl
  have c1 := hs'.rowj barC_len hkx 1 rfl
  have c2 := hs'.rowj barC_len hkx 2 rfl
  have c3 := hs'.rowj barC_len hkx 3 rfl
  have c4 := hs'.rowj barC_len hkx 4 rfl
  have HE := Lib.hid (hA.each l[k0] (List.getElem_mem hkx))
  rw [hkb] at c0 c1 c2 c3 c4 HE
  have HI := Lib.hid (fun (W : World) (hw : B ≤ W.heap.size) (hh : BarsAt W B (some ⟨bb, o, none⟩) n l) => hk0 ▸ rfind14_any l r.mark (some ⟨bb, o, none⟩) n c B W hw hh)
  have HV := Lib.hid (fun w => h1 ▸ rturn_any r.tx r.ty w)
  have HP := Lib.hid (fun w => h2 ▸ rnear1_any r.at_ w)
  have HS := Lib.hid (fun w => rtwice_any r.step w)
  have hz : ∀ W, (binOp .eql 87 (.agg #[.int .i64 r.step.x, .int .i64 r.step.y, .int .i64 r.step.z]) (.agg #[.int .i64 0, .int .i64 0, .int .i64 0])).run Tryz.prog W = .ok (.bool (S.pt0 r.step)) W := fun W => run_eq0 r.step W
  have z91 : ∀ W, (Instr.build 87 #[]).run Tryz.prog W = .ok (.agg #[.int .i64 0, .int .i64 0, .int .i64 0]) W := fun _ => by kernel_rfl
  obtain ⟨q, hq⟩ : ∃ q : Nat, q = (r.count - 1).toNat := ⟨_, rfl⟩
  have hqi : (q : Int) = r.count - 1 := by omega
  have hcs : (¬ 1 < r.count) ∨ (1 < r.count ∧ S.pt0 r.step = false ∧ S.near1 r.step 2097152 = true) := by
    by_cases h5 : 1 < r.count
    · simp [S.rightStep, h5] at h'
      exact .inr ⟨h5, h'⟩
    · exact .inl h5
  have hst : 0 < q → S.near1 r.step 2097152 = true := fun hq0 => by
    rcases hcs with h5 | h5
    · exfalso; omega
    · exact h5.2.2
  have hl6 := legs_len b.b.code
  have HP0 := Lib.hid (fun (W : World) (hw : B ≤ W.heap.size) (hh : BarAt W B b.A b.n b.b) => show Calls Tryz.prog 179 #[barV b.b b.A b.n b.c, rnV r, .int .i64 0] W (GivesOne 87 3 ((S.legsOf b.b.code).length + 1) ((S.laidPath b.b r 0).flatMap ptC) W) from rpoints_any b.b r 0 b.A b.n b.c B W hw hh hv h1 h2 (by omega) (fun h => absurd h (by omega)) _ rfl)
  have HPQ := Lib.hid (fun (W : World) (hw : B ≤ W.heap.size) (hh : BarAt W B b.A b.n b.b) => rpoints_any b.b r q b.A b.n b.c B W hw hh hv h1 h2 (by omega) hst _ rfl)
  have HN0 := Lib.hid (fun (W : World) (A' : Option Addr) (c' : Nat) (B' : Nat) (hw : B' ≤ W.heap.size) (hh : Cells W B' A' ((S.laidPath b.b r 0).flatMap ptC)) => rnearL_any (S.laidPath b.b r 0) A' ((S.legsOf b.b.code).length + 1) c' B' W (laidPath_len _ _ _) (by omega) hw hh)
  have HNQ := Lib.hid (fun (W : World) (A' : Option Addr) (c' : Nat) (B' : Nat) (hw : B' ≤ W.heap.size) (hh : Cells W B' A' ((S.laidPath b.b r q).flatMap ptC)) => rnearL_any (S.laidPath b.b r q) A' ((S.legsOf b.b.code).length + 1) c' B' W (laidPath_len _ _ _) (by omega) hw hh)
  rw [← hq]
  have e1 : IntKind.i64.wrap (r.count - 1) = (q : Int) := by rw [IntWalk.i64_in _ (by omega)]; omega
  have HQ := Lib.hid hqi
  generalize S.near (S.laidPath b.b r 0) 1048576 = N0 at *
  generalize S.near (S.laidPath b.b r q) 1048576 = NQ at *
  generalize (S.laidPath b.b r 0).flatMap ptC = P0 at *
  generalize (S.laidPath b.b r q).flatMap ptC = PQ at *
  have hj : ¬ (k0 : Int) < 0 := by omega
  have hki : (k0 : Int) < (n : Int) := by omega
  clear hA h h' h0 h1 h2 hv hbk hs' hst hq hqi hk0 hkb
  unfold turnV at HV
  unfold ptV at HP HS
  unfold barV rnV at HP0 HPQ
  unfold rnV
  have hW0 : Below w.heap.size w (w.alloc (.cells #[.string r.mark, .int .i64 r.tx, .int .i64 r.ty, .int .i64 r.at_.x, .int .i64 r.at_.y, .int .i64 r.at_.z, .int .i64 r.step.x, .int .i64 r.step.y, .int .i64 r.step.z, .int .i64 r.count] 183)) := ba_alloc (Below.refl _ _) _
  have HRB := Lib.hid (Blk.new w 183 #[.string r.mark, .int .i64 r.tx, .int .i64 r.ty, .int .i64 r.at_.x, .int .i64 r.at_.y, .int .i64 r.at_.z, .int .i64 r.step.x, .int .i64 r.step.y, .int .i64 r.step.z, .int .i64 r.count])
  have HC := Lib.hid (show w.cell? ⟨bb, o + k0 * 5, none⟩ = some (.string b.b.mark) ∧ w.cell? ⟨bb, o + k0 * 5 + 1, none⟩ = some (.int .i64 b.b.size) ∧ w.cell? ⟨bb, o + k0 * 5 + 2, none⟩ = some (.int .i64 b.b.count) ∧ w.cell? ⟨bb, o + k0 * 5 + 3, none⟩ = some (.int .i64 b.b.code) ∧ w.cell? ⟨bb, o + k0 * 5 + 4, none⟩ = some (.slice b.A b.n b.c) from ⟨c0, c1, c2, c3, c4⟩)
  clear c0 c1 c2 c3 c4
  rcases hcs with h5 | ⟨h5, h6, h7⟩
  case' inl =>
    go_enter Tryz.func115, Tryz.ntmps115
    go_upto_region 6 with (first
      | (go_at_call 162; (with_reducible refine (HI.out _ (by simp; omega) (HA.out.at_ hB (by repeat (first | exact Below.refl _ _ | assumption | refine ba_alloc ?_ _ | refine ba_drew ?_ | refine ba_drewN ?_ _ | refine ba_via (by assumption) ?_ | (refine ba_set ?_ ?_ _; rotate_left; (first | omega | (simp; omega) | simp)))))).mono ?_); rintro e w1 ⟨rfl, hbw1⟩; obtain ⟨hcw1, hfw1⟩ := bcell hbw1; have hzw1_0 : w.heap.size < w1.heap.size := lt_via hbw1 (by first | omega | (simp; done) | (simp; omega)))
      | (go_at_call 175; (with_reducible refine (HV.out _).mono ?_); rintro e w2 ⟨rfl, hbw2⟩; obtain ⟨hcw2, hfw2⟩ := bcell hbw2; have hzw2_0 : w.heap.size < w2.heap.size := lt_via hbw2 (by first | omega | (simp; done) | (simp; omega)))
      | (go_at_call 176; (with_reducible refine (HP.out _).mono ?_); rintro e w3 ⟨rfl, hbw3⟩; obtain ⟨hcw3, hfw3⟩ := bcell hbw3; have hzw3_0 : w.heap.size < w3.heap.size := lt_via hbw3 (by first | omega | (simp; done) | (simp; omega)))
      | (go_at_call 177; (with_reducible refine (HS.out _).mono ?_); rintro e w4 ⟨rfl, hbw4⟩; obtain ⟨hcw4, hfw4⟩ := bcell hbw4; have hzw4_0 : w.heap.size < w4.heap.size := lt_via hbw4 (by first | omega | (simp; done) | (simp; omega))))
    have hb0 : Below w.heap.size w w3 := (by repeat (first | exact Below.refl _ _ | assumption | refine ba_alloc ?_ _ | refine ba_drew ?_ | refine ba_drewN ?_ _ | refine ba_via (by assumption) ?_ | (refine ba_set ?_ ?_ _; rotate_left; (first | omega | (simp; omega) | simp))))
    have hR0 := ((HRB.out.via hbw1).via hbw2).via hbw3
    clear hcw1 hfw1 hcw2 hfw2 hcw3 hfw3
    clear hbw1 hbw2 hbw3
    generalize w3 = W0 at *
  case' inr =>
    rw [h6] at hz
    rw [h7] at HS
    go_enter Tryz.func115, Tryz.ntmps115
    go_upto_region 6 with (first
      | (go_at_call 162; (with_reducible refine (HI.out _ (by simp; omega) (HA.out.at_ hB (by repeat (first | exact Below.refl _ _ | assumption | refine ba_alloc ?_ _ | refine ba_drew ?_ | refine ba_drewN ?_ _ | refine ba_via (by assumption) ?_ | (refine ba_set ?_ ?_ _; rotate_left; (first | omega | (simp; omega) | simp)))))).mono ?_); rintro e w1 ⟨rfl, hbw1⟩; obtain ⟨hcw1, hfw1⟩ := bcell hbw1; have hzw1_0 : w.heap.size < w1.heap.size := lt_via hbw1 (by first | omega | (simp; done) | (simp; omega)))
      | (go_at_call 175; (with_reducible refine (HV.out _).mono ?_); rintro e w2 ⟨rfl, hbw2⟩; obtain ⟨hcw2, hfw2⟩ := bcell hbw2; have hzw2_0 : w.heap.size < w2.heap.size := lt_via hbw2 (by first | omega | (simp; done) | (simp; omega)))
      | (go_at_call 176; (with_reducible refine (HP.out _).mono ?_); rintro e w3 ⟨rfl, hbw3⟩; obtain ⟨hcw3, hfw3⟩ := bcell hbw3; have hzw3_0 : w.heap.size < w3.heap.size := lt_via hbw3 (by first | omega | (simp; done) | (simp; omega)))
      | (go_at_call 177; (with_reducible refine (HS.out _).mono ?_); rintro e w4 ⟨rfl, hbw4⟩; obtain ⟨hcw4, hfw4⟩ := bcell hbw4; have hzw4_0 : w.heap.size < w4.heap.size := lt_via hbw4 (by first | omega | (simp; done) | (simp; omega))))
    have hb0 : Below w.heap.size w w4 := (by repeat (first | exact Below.refl _ _ | assumption | refine ba_alloc ?_ _ | refine ba_drew ?_ | refine ba_drewN ?_ _ | refine ba_via (by assumption) ?_ | (refine ba_set ?_ ?_ _; rotate_left; (first | omega | (simp; omega) | simp))))
    have hR0 := (((HRB.out.via hbw1).via hbw2).via hbw3).via hbw4
    clear hcw1 hfw1 hcw2 hfw2 hcw3 hfw3 hcw4 hfw4
    clear hbw1 hbw2 hbw3 hbw4
    generalize w4 = W0 at *
  all_goals (
    have hkeep : ∀ W', Below W0.heap.size W0 W' → W'.cell? ⟨bb, o + k0 * 5, none⟩ = some (.string b.b.mark) ∧ W'.cell? ⟨bb, o + k0 * 5 + 1, none⟩ = some (.int .i64 b.b.size) ∧ W'.cell? ⟨bb, o + k0 * 5 + 2, none⟩ = some (.int .i64 b.b.count) ∧ W'.cell? ⟨bb, o + k0 * 5 + 3, none⟩ = some (.int .i64 b.b.code) ∧ W'.cell? ⟨bb, o + k0 * 5 + 4, none⟩ = some (.slice b.A b.n b.c) ∧ W'.cell? ⟨w.heap.size, 0, none⟩ = some (.string r.mark) ∧ W'.cell? ⟨w.heap.size, 1, none⟩ = some (.int .i64 r.tx) ∧ W'.cell? ⟨w.heap.size, 2, none⟩ = some (.int .i64 r.ty) ∧ W'.cell? ⟨w.heap.size, 3, none⟩ = some (.int .i64 r.at_.x) ∧ W'.cell? ⟨w.heap.size, 4, none⟩ = some (.int .i64 r.at_.y) ∧ W'.cell? ⟨w.heap.size, 5, none⟩ = some (.int .i64 r.at_.z) ∧ W'.cell? ⟨w.heap.size, 6, none⟩ = some (.int .i64 r.step.x) ∧ W'.cell? ⟨w.heap.size, 7, none⟩ = some (.int .i64 r.step.y) ∧ W'.cell? ⟨w.heap.size, 8, none⟩ = some (.int .i64 r.step.z) ∧ W'.cell? ⟨w.heap.size, 9, none⟩ = some (.int .i64 r.count) := fun W' hw => by
      have g := (hb0.trans (hw.mono hb0.size))
      have g1 := hR0.via hw
      obtain ⟨c0, c1, c2, c3, c4⟩ := HC.out
      exact ⟨(g.cell (p := ⟨bb, _, none⟩) hbb').trans c0, (g.cell (p := ⟨bb, _, none⟩) hbb').trans c1, (g.cell (p := ⟨bb, _, none⟩) hbb').trans c2, (g.cell (p := ⟨bb, _, none⟩) hbb').trans c3, (g.cell (p := ⟨bb, _, none⟩) hbb').trans c4,
        g1.cell 0, g1.cell 1, g1.cell 2, g1.cell 3, g1.cell 4, g1.cell 5, g1.cell 6, g1.cell 7, g1.cell 8, g1.cell 9⟩
    have HK := Lib.hid hkeep
    clear hkeep hz HI HV HP HS HA
    have hrl := hR0.lt
    clear hR0
    obtain ⟨c0, c1, c2, c3, c4, d0, d1, d2, d3, d4, d5, d6, d7, d8, d9⟩ := HK.out W0 (Below.refl _ _)
    have hbb0 : bb < W0.heap.size := by have := hb0.size; omega
    cases N0
    all_goals (
      refine wp_region_mix 1 [5, 0, 9, 0] (by kernel_rfl) (by kernel_rfl) (of_decide_eq_true (by kernel_rfl)) ?_
      try simp only [wpSegs, List.take_succ_cons, List.take_zero, List.drop_succ_cons, List.drop_zero, List.take_nil, List.drop_nil]
      repeat (go_big_quiet_step (fail))
      refine wpQuiet_nil ?_
      show wpList _ _ _ _ _ _
      go_wp2_with ((go_at_call 179; (with_reducible refine (HP0.out _ (size_via hB (by repeat (with_reducible first | exact Below.refl _ _ | assumption | refine ba_alloc ?_ _ | refine ba_drew ?_ | refine ba_drewN ?_ _ | refine ba_via (by assumption) ?_ | (refine ba_set ?_ ?_ _; rotate_left; (first | omega | (simp; omega) | simp))))) (HE.out.at_ hB (by repeat (with_reducible first | exact Below.refl _ _ | assumption | refine ba_alloc ?_ _ | refine ba_drew ?_ | refine ba_drewN ?_ _ | refine ba_via (by assumption) ?_ | (refine ba_set ?_ ?_ _; rotate_left; (first | omega | (simp; omega) | simp)))))).mono ?_); rintro e wA ⟨AA, cAA, rfl, hoAA, hbAA⟩; have hcAA := (own_cells hoAA (by unfold maxLen; omega)).1))
      refine seg_next (grow_to (by repeat (with_reducible first | exact Below.refl _ _ | assumption | refine ba_alloc ?_ _ | refine ba_drew ?_ | refine ba_drewN ?_ _ | refine ba_via (by assumption) ?_ | (refine ba_set ?_ ?_ _; rotate_left; (first | omega | (simp; omega) | simp))))) ?_
      try simp only [wpSegs, List.take_succ_cons, List.take_zero, List.drop_succ_cons, List.drop_zero, List.take_nil, List.drop_nil]
      repeat (go_big_quiet_step (fail))
      refine wpQuiet_nil ?_
      show wpList _ _ _ _ _ _
      go_wp2_with ((go_at_call 178; (with_reducible refine (HN0.out _ _ _ _ (Nat.le_refl _) hcAA).mono ?_); rintro e wB ⟨rfl, hbBB⟩; obtain ⟨hxBB, hyBB⟩ := bcell (show Below W0.heap.size W0 wB from (by repeat (with_reducible first | exact Below.refl _ _ | assumption | refine ba_alloc ?_ _ | refine ba_drew ?_ | refine ba_drewN ?_ _ | refine ba_via (by assumption) ?_ | (refine ba_set ?_ ?_ _; rotate_left; (first | omega | (simp; omega) | simp)))))))
      refine seg_next (grow_to (by repeat (with_reducible first | exact Below.refl _ _ | assumption | refine ba_alloc ?_ _ | refine ba_drew ?_ | refine ba_drewN ?_ _ | refine ba_via (by assumption) ?_ | (refine ba_set ?_ ?_ _; rotate_left; (first | omega | (simp; omega) | simp))))) ?_
      try simp only [wpSegs, List.take_succ_cons, List.take_zero, List.drop_succ_cons, List.drop_zero, List.take_nil, List.drop_nil]
      repeat (go_big_quiet_step (fail))
      refine wpQuiet_nil ?_
      show wpList _ _ _ _ _ _
      go_wp2_with ((go_at_call 179; (with_reducible refine (HPQ.out _ (size_via hB (by repeat (with_reducible first | exact Below.refl _ _ | assumption | refine ba_alloc ?_ _ | refine ba_drew ?_ | refine ba_drewN ?_ _ | refine ba_via (by assumption) ?_ | (refine ba_set ?_ ?_ _; rotate_left; (first | omega | (simp; omega) | simp))))) (HE.out.at_ hB (by repeat (with_reducible first | exact Below.refl _ _ | assumption | refine ba_alloc ?_ _ | refine ba_drew ?_ | refine ba_drewN ?_ _ | refine ba_via (by assumption) ?_ | (refine ba_set ?_ ?_ _; rotate_left; (first | omega | (simp; omega) | simp)))))).mono ?_); rintro e wC ⟨AC, cAC, rfl, hoAC, hbAC⟩; have hcAC := (own_cells hoAC (by unfold maxLen; omega)).1))
      refine seg_next (grow_to (by repeat (with_reducible first | exact Below.refl _ _ | assumption | refine ba_alloc ?_ _ | refine ba_drew ?_ | refine ba_drewN ?_ _ | refine ba_via (by assumption) ?_ | (refine ba_set ?_ ?_ _; rotate_left; (first | omega | (simp; omega) | simp))))) ?_
      try simp only [wpSegs, List.take_succ_cons, List.take_zero, List.drop_succ_cons, List.drop_zero, List.take_nil, List.drop_nil]
      repeat (go_big_quiet_step (fail))
      refine wpQuiet_nil ?_
      show wpList _ _ _ _ _ _
      go_wp2_with ((go_at_call 178; (with_reducible refine (HNQ.out _ _ _ _ (Nat.le_refl _) hcAC).mono ?_); rintro e wD ⟨rfl, hbBD⟩; obtain ⟨hxBD, hyBD⟩ := bcell (show Below W0.heap.size W0 wD from (by repeat (with_reducible first | exact Below.refl _ _ | assumption | refine ba_alloc ?_ _ | refine ba_drew ?_ | refine ba_drewN ?_ _ | refine ba_via (by assumption) ?_ | (refine ba_set ?_ ?_ _; rotate_left; (first | omega | (simp; omega) | simp)))))))
      refine seg_next (grow_to (by repeat (with_reducible first | exact Below.refl _ _ | assumption | refine ba_alloc ?_ _ | refine ba_drew ?_ | refine ba_drewN ?_ _ | refine ba_via (by assumption) ?_ | (refine ba_set ?_ ?_ _; rotate_left; (first | omega | (simp; omega) | simp))))) ?_
      try simp only [wpSegs, List.take_succ_cons, List.take_zero, List.drop_succ_cons, List.drop_zero, List.take_nil, List.drop_nil]
      repeat (go_big_quiet_step (fail))
      refine wpQuiet_nil ?_
      show wpList _ _ _ _ _ _
      go_wp2
      go_ret
      exact ⟨rfl, (by repeat (with_reducible first | exact Below.refl _ _ | assumption | refine ba_alloc ?_ _ | refine ba_drew ?_ | refine ba_drewN ?_ _ | refine ba_via (by assumption) ?_ | (refine ba_set ?_ ?_ _; rotate_left; (first | omega | (simp; omega) | simp))))⟩))
end Go.Proofs.YtffkmgjmlahfpaaGreat
set_option linter.unusedVariables false
set_option linter.unusedSimpArgs false
namespace Go.Proofs.YtffkmgjmlahfpaaGreat
open Go.RowKit
theorem rrun_any (l : List BarR) (r : Rn) (A : Option Addr) (n c : Nat) (B : Nat) (w : World) (hB : B ≤ w.heap.size) (hA : BarsAt w B A n l) (hs : S.sched (bars l) = true) :
    Calls Tryz.prog 115 #[.slice A n c, rnV r] w fun e w' => e = .returned (.bool (S.right (bars l) r)) ∧ Below w.heap.size w w' := by
  rw [← rrun_eq hs]
  by_cases h : S.rightHead (bars l) r = true
  · by_cases h' : S.rightStep r = true
    · obtain ⟨⟨h0, _⟩, _⟩ := rightHead_out h
      have hb := (index_bd (bars l) r.mark).2
      obtain ⟨k, hk⟩ : ∃ k : Nat, S.index (bars l) r.mark = (k : Int) := ⟨(S.index (bars l) r.mark).toNat, by omega⟩
      have hkl : k < l.length := by rw [hk] at hb; simpa using hb
      have e : S.rrun (bars l) r = (S.near (S.laidPath l[k].b r 0) 1048576 && S.near (S.laidPath l[k].b r (r.count - 1).toNat) 1048576) := by
        have : S.barAt (bars l) r.mark = some l[k].b := by
          unfold S.barAt
          rw [hk]
          simp [hkl]
        unfold S.rrun
        rw [h, h', this]
        rfl
      rw [e]
      exact rrun_in l r k l[k] A n c B w hB hA h h' hk (List.getElem?_eq_getElem hkl) (sched_bar hs (k := k) (by simp [hkl])).1
    · have h2 : S.rightStep r = false := by simpa using h'
      have e : S.rrun (bars l) r = false := by unfold S.rrun; rw [h2]; simp
      rw [e]
      exact rrun_no1 l r A n c B w hB hA h h2
  · have h2 : S.rightHead (bars l) r = false := by simpa using h
    have e : S.rrun (bars l) r = false := by unfold S.rrun; rw [h2]; simp
    rw [e]
    exact rrun_no0 l r A n c B w hB hA h2
set_option maxHeartbeats 1000000 in
theorem rlaid_any (l : List BarR) (rs : List Rn) (A : Option Addr) (n c : Nat) (A' : Option Addr) (n' c' : Nat) (B : Nat) (w : World) (hB : B ≤ w.heap.size) (hA : BarsAt w B A n l) (hR : RunsAt w B A' n' rs) :
    Calls Tryz.prog 61 #[.slice A n c, .slice A' n' c'] w fun e w' => e = .returned (.bool (S.laid (bars l) rs)) ∧ Below w.heap.size w w' := by
  have HA := Lib.hid hA
  have HR := Lib.hid hR
  have HS := Lib.hid (fun (W : World) (hw : B ≤ W.heap.size) (hh : BarsAt W B A n l) => rsched_any l A n c B W hw hh)
  have HL := Lib.hid (show S.laid (bars l) rs = (S.sched (bars l) && decide (n' ≤ 60) && (rs.all (S.right (bars l)) && decide (S.sumAll rs ≤ 2000))) by unfold S.laid; rw [hR.len, runsOk_iff (by omega)])
  have hn := hR.len
  have hnm := hR.max
  by_cases hs : S.sched (bars l) = true
  rotate_left
  · have hs' : S.sched (bars l) = false := by simpa using hs
    rw [hs'] at HS HL
    clear hA hR hs hs' hn
    go_enter Tryz.func61, Tryz.ntmps61
    go_wp2_with (first
      | (go_at_call 114; (with_reducible refine (HS.out _ hB HA.out).mono ?_); rintro e w1 ⟨rfl, hbw1⟩; obtain ⟨hcw1, hfw1⟩ := bcell hbw1))
    go_ret
    exact ⟨ret_b (by rw [HL.out]; rfl), (by repeat (first | exact Below.refl _ _ | assumption | refine ba_alloc ?_ _ | refine ba_drew ?_ | refine ba_drewN ?_ _ | refine ba_via (by assumption) ?_ | (refine ba_set ?_ ?_ _; rotate_left; (first | omega | (simp; omega) | simp))))⟩
  rw [hs] at HS HL
  have HRI := Lib.hid (fun (r : Rn) (W : World) (hw : B ≤ W.heap.size) (hh : BarsAt W B A n l) => rrun_any l r A n c B W hw hh hs)
  have HC := Lib.hid (fun (r : Rn) (h : S.right (bars l) r = true) => right_count h)
  have HCN := Lib.hid (fun (W : World) (hw : B ≤ W.heap.size) (hh : RunsAt W B A' n' rs) (h60 : n' ≤ 60) (hc : ∀ k (hk : k < rs.length), 0 ≤ rs[k].count ∧ rs[k].count ≤ 1000) => rcount16_any rs A' n' c' B W hw hh h60 hc)
  unfold rnV at HRI
  by_cases h60 : 60 < n'
  · have e : decide (n' ≤ 60) = false := by simpa using h60
    rw [e] at HL
    clear hA hR hs e hn
    go_enter Tryz.func61, Tryz.ntmps61
    go_wp2_with (first
      | (go_at_call 114; (with_reducible refine (HS.out _ hB HA.out).mono ?_); rintro e w1 ⟨rfl, hbw1⟩; obtain ⟨hcw1, hfw1⟩ := bcell hbw1))
    go_ret
    exact ⟨ret_b (by rw [HL.out]; rfl), (by repeat (first | exact Below.refl _ _ | assumption | refine ba_alloc ?_ _ | refine ba_drew ?_ | refine ba_drewN ?_ _ | refine ba_via (by assumption) ?_ | (refine ba_set ?_ ?_ _; rotate_left; (first | omega | (simp; omega) | simp))))⟩
  have e : decide (n' ≤ 60) = true := by simp; omega
  rw [e] at HL
  clear hA hR hs e hn
  go_enter Tryz.func61, Tryz.ntmps61
  go_wp2_with (first
    | (go_at_call 114; (with_reducible refine (HS.out _ hB HA.out).mono ?_); rintro e w1 ⟨rfl, hbw1⟩; obtain ⟨hcw1, hfw1⟩ := bcell hbw1))
  go_loopw [5] (fun i wr => ∃ (k : Nat), k ≤ n' ∧ i = .int .i64 k ∧ Hid (∀ j (hj : j < rs.length), j < k → S.right (bars l) rs[j] = true) ∧ Below w1.heap.size w1 wr) (fun i _ => n' - (intOf i).toNat)
  case atStart => exact ⟨0, Nat.zero_le _, rfl, Lib.hid (fun j _ hj => absurd hj (by omega)), Below.refl _ _⟩
  case round =>
    obtain ⟨k, hk, rfl, HNO, hbr⟩ := hrel
    have hbwr : Below w.heap.size w wr := hbw1.trans (hbr.mono hbw1.size)
    have hwr : B ≤ wr.heap.size := by have := hbwr.size; omega
    by_cases hlt : k < n'
    · have hkx : k < rs.length := by have := HR.out.len; omega
      have hki : (k : Int) < (n' : Int) := by omega
      have HA' := Lib.hid (HA.out.at_ hB hbwr)
      have hs' := (HR.out.at_ hB hbwr).cells
      obtain ⟨b, o, hAe, _, _⟩ := hs'.at_ (by rw [flat_len rnC 10 rnC_len]; omega)
      subst hAe
      have c0 := hs'.row0 rnC_len hkx rfl
      have c1 := hs'.rowj rnC_len hkx 1 rfl
      have c2 := hs'.rowj rnC_len hkx 2 rfl
      have c3 := hs'.rowj rnC_len hkx 3 rfl
      have c4 := hs'.rowj rnC_len hkx 4 rfl
      have c5 := hs'.rowj rnC_len hkx 5 rfl
      have c6 := hs'.rowj rnC_len hkx 6 rfl
      have c7 := hs'.rowj rnC_len hkx 7 rfl
      have c8 := hs'.rowj rnC_len hkx 8 rfl
      have c9 := hs'.rowj rnC_len hkx 9 rfl
      have HRX := Lib.hid (fun (W : World) (hw : B ≤ W.heap.size) (hh : BarsAt W B A n l) => HRI.out rs[k] W hw hh)
      have HBAD := Lib.hid (fun (h : S.right (bars l) rs[k] = false) => all_no (p := S.right (bars l)) hkx h)
      have HGO := Lib.hid (fun (h : S.right (bars l) rs[k] = true) (j : Nat) (hj : j < rs.length) (hjk : j < k + 1) => show S.right (bars l) rs[j] = true from by
        by_cases hjk' : j = k
        · subst hjk'; exact h
        · exact HNO.out j hj (by omega))
      clear hs'
      generalize S.right (bars l) rs[k] = t at *
      generalize rs[k] = r at *
      cases t
      · go_wp2_with (first
          | (go_at_call 115; (with_reducible refine (HRX.out _ hwr HA'.out).mono ?_); rintro e w2 ⟨rfl, hbw2⟩; obtain ⟨hcw2, hfw2⟩ := bcell hbw2))
        go_ret
        exact ⟨ret_b (by rw [HL.out, HBAD.out trivial]; rfl), hbwr.trans (hbw2.mono hbwr.size)⟩
      · go_wp2_with (first
          | (go_at_call 115; (with_reducible refine (HRX.out _ hwr HA'.out).mono ?_); rintro e w2 ⟨rfl, hbw2⟩; obtain ⟨hcw2, hfw2⟩ := bcell hbw2))
        go_roundw
        case rel => exact ⟨k + 1, by omega, by go_num, Lib.hid (HGO.out trivial), hbr.trans (hbw2.mono hbr.size)⟩
        case measure => simp [intOf]; omega
    · have hall : ∀ j (hj : j < rs.length), S.right (bars l) rs[j] = true := fun j hj => HNO.out j hj (by have := HR.out.len; omega)
      have HAL := Lib.hid (all_yes (p := S.right (bars l)) hall)
      have HCX := Lib.hid (HCN.out wr hwr (HR.out.at_ hB hbwr) (by omega) (fun j hj => by have := HC.out _ (hall j hj); omega))
      clear hall
      generalize S.sumAll rs = sm at *
      go_wp2_with (first
        | (go_at_call 94; (with_reducible refine (HCX.out).mono ?_); rintro e w' ⟨rfl, rfl⟩))
      go_ret
      exact ⟨ret_b (by rw [HL.out, HAL.out]; simp), hbwr⟩
/-- Where laid bar i stands, in memory: the reference's Place. -/
theorem rplace_any (rs : List Rn) (A : Option Addr) (n c : Nat) (B : Nat) (w : World) (hB : B ≤ w.heap.size) (hR : RunsAt w B A n rs) (hc : ∀ k (hk : k < rs.length), 0 ≤ rs[k].count) (i k j : Nat) (hk : k < rs.length) (hi : (i : Int) = S.sumTo rs k + j) (hj : (j : Int) < rs[k].count) (hi64 : i ≤ 1000000) :
    Calls Tryz.prog 161 #[.slice A n c, .int .i64 i] w fun e w' => e = .returned (.tuple #[.int .i64 k, .int .i64 j]) ∧ w = w' := by
  have HN := Lib.hid hR.len
  have HS := Lib.hid hR.cells
  have hnm := hR.max
  have hkn : k < n := by have := hR.len; omega
  have HSM := Lib.hid (fun (m : Nat) (hm : m ≤ k) => sumTo_mono (rs := rs) hc hm (by omega))
  have HSZ := Lib.hid (fun (m : Nat) (hm : m ≤ rs.length) => sumTo_mono (rs := rs) hc (Nat.zero_le m) hm)
  have HSS := Lib.hid (fun (m : Nat) (hm : m < rs.length) => sumTo_succ rs hm)
  have HI := Lib.hid hi
  have HJ := Lib.hid hj
  clear hR hi hj
  go_enter Tryz.func161, Tryz.ntmps161
  go_wp2
  go_loop [1, 6] (fun v m => ∃ q : Nat, q ≤ k ∧ m = .int .i64 q ∧ v = .int .i64 ((i : Int) - S.sumTo rs q)) (fun _ m => k - (intOf m).toNat)
  case atStart => exact ⟨0, Nat.zero_le _, rfl, by rw [sumTo_zero]; simp⟩
  case round =>
    obtain ⟨q, hq, rfl, rfl⟩ := hrel
    have hl := HN.out
    have hqx : q < rs.length := by omega
    have hqi : (q : Int) < (n : Int) := by omega
    have hs' := HS.out
    obtain ⟨b, o, rfl, _, _⟩ := hs'.at_ (by rw [flat_len rnC 10 rnC_len]; omega)
    have c9 := hs'.rowj rnC_len hqx 9 rfl
    have h0 := HSZ.out q (by omega)
    rw [sumTo_zero] at h0
    have h1 := HI.out
    have h2 := HSM.out q hq
    have h3 := HSS.out q hqx
    have h5 := hc q hqx
    clear hs' hl
    by_cases hlt : q < k
    · have h4 := HSM.out (q + 1) (by omega)
      have hge : rs[q].count ≤ (i : Int) - S.sumTo rs q := by omega
      have e1 : IntKind.i64.wrap ((i : Int) - S.sumTo rs q - rs[q].count) = (i : Int) - S.sumTo rs (q + 1) := by
        rw [IntWalk.i64_in _ (by omega)]; omega
      have hd : decide (rs[q].count ≤ (i : Int) - S.sumTo rs q) = true := decide_eq_true hge
      clear h0 h1 h2 h3 h4 h5
      generalize hs1 : S.sumTo rs (q + 1) = s1 at *
      have HS1 := Lib.hid hs1
      clear hs1
      generalize S.sumTo rs q = s0 at *
      generalize rs[q].count = cq at *
      go_wp2
      go_round
      case rel => exact ⟨q + 1, by omega, by go_num, by rw [HS1.out]⟩
      case measure => simp [intOf]; omega
    · have hqk : q = k := by omega
      subst hqk
      have hj' := HJ.out
      have hlt2 : ¬ rs[q].count ≤ (i : Int) - S.sumTo rs q := by omega
      have HE := Lib.hid (show (i : Int) - S.sumTo rs q = j by omega)
      clear h0 h1 h2 h3 hj'
      generalize (i : Int) - S.sumTo rs q = v at *
      generalize rs[q].count = cq at *
      go_wp2
      go_ret2
      exact ⟨ret_2 rfl HE.out, rfl⟩
end Go.Proofs.YtffkmgjmlahfpaaGreat
set_option linter.unusedVariables false
set_option linter.unusedSimpArgs false
namespace Go.Proofs.YtffkmgjmlahfpaaGreat
open Go.RowKit
/-- Laid bar i stands in run k at place j; its line of the schedule is r. -/
structure Lies (l : List BarR) (rs : List Rn) (i k j k0 : Nat) (r : BarR) : Prop where
  st : Stands (bars l) rs i k j k0 r.b
  get : l[k0]? = some r
  cnt : ∀ k (hk : k < rs.length), 0 ≤ rs[k].count ∧ rs[k].count ≤ 1000
  lim : i ≤ 1000000
theorem lies_of {l : List BarR} {rs : List Rn} (h : S.laid (bars l) rs = true) {i : Nat} (hi : i < (S.mains (bars l) rs).length) : ∃ k j k0 r, Lies l rs i k j k0 r := by
  obtain ⟨k, j, k0, b, hs⟩ := stands_of h hi
  have hg := hs.ok.get
  rw [List.getElem?_map] at hg
  cases hr : l[k0]? with
  | none => rw [hr] at hg; cases hg
  | some r =>
    rw [hr] at hg
    simp only [Option.map_some, Option.some.injEq] at hg
    subst hg
    simp only [S.laid, Bool.and_eq_true, decide_eq_true_eq] at h
    have hml := mains_len h.2 (by omega)
    exact ⟨k, j, k0, r, hs, hr, fun k hk => by have := right_count (runs_in h.2 (List.getElem_mem hk)); omega, by omega⟩
set_option maxHeartbeats 1000000 in
theorem rbar16_any (l : List BarR) (rs : List Rn) (A : Option Addr) (n c : Nat) (A' : Option Addr) (n' c' : Nat) (B : Nat) (w : World) (hB : B ≤ w.heap.size) (hA : BarsAt w B A n l) (hR : RunsAt w B A' n' rs) (i k j k0 : Nat) (r : BarR) (hL : Lies l rs i k j k0 r) :
    Calls Tryz.prog 102 #[.slice A n c, .slice A' n' c', .int .i64 i] w fun e w' => e = .returned (barV r.b r.A r.n r.c) ∧ Below w.heap.size w w' := by
  have HA := Lib.hid hA
  have hkx := hL.st.lt
  have hkn : k < n' := by have := hR.len; omega
  have hki : (k : Int) < (n' : Int) := by omega
  have HP := Lib.hid (fun (W : World) (hw : B ≤ W.heap.size) (hh : RunsAt W B A' n' rs) => rplace_any rs A' n' c' B W hw hh (fun k hk => (hL.cnt k hk).1) i k j hkx hL.st.sum hL.st.inr hL.lim)
  have HR := Lib.hid hR
  have hix := hL.st.ok.index
  obtain ⟨hk0, hrg⟩ := List.getElem?_eq_some_iff.1 hL.get
  have hk0n : k0 < n := by have := hA.len; omega
  have hk0i : (k0 : Int) < (n : Int) := by omega
  have HF := Lib.hid (fun (W : World) (hw : B ≤ W.heap.size) (hh : BarsAt W B A n l) => hix ▸ rfind14_any l rs[k].mark A n c B W hw hh)
  have hs' := hR.cells
  obtain ⟨b, o, hAe, hbB, _⟩ := hs'.at_ (by rw [flat_len rnC 10 rnC_len]; omega)
  subst hAe
  have c0 := hs'.row0 rnC_len hkx rfl
  have hs2 := hA.cells
  obtain ⟨b2, o2, hAe2, hbB2, _⟩ := hs2.at_ (by rw [flat_len barC 5 barC_len]; omega)
  subst hAe2
  have d0 := hs2.row0 barC_len hk0 rfl
  have d1 := hs2.rowj barC_len hk0 1 rfl
  have d2 := hs2.rowj barC_len hk0 2 rfl
  have d3 := hs2.rowj barC_len hk0 3 rfl
  have d4 := hs2.rowj barC_len hk0 4 rfl
  rw [hrg] at d0 d1 d2 d3 d4
  have hb1 : b < w.heap.size := by omega
  have hb2 : b2 < w.heap.size := by omega
  clear hA hR hs' hs2 hix hrg
  clear hL
  generalize rs[k].mark = mk at *
  unfold barV
  go_enter Tryz.func102, Tryz.ntmps102
  go_wp2_with (first
    | (go_at_call 161; (with_reducible refine (HP.out _ (size_via hB (by repeat (first | exact Below.refl _ _ | assumption | refine ba_alloc ?_ _ | refine ba_drew ?_ | refine ba_drewN ?_ _ | refine ba_via (by assumption) ?_ | (refine ba_set ?_ ?_ _; rotate_left; (first | omega | (simp; omega) | simp))))) (HR.out.at_ hB (by repeat (first | exact Below.refl _ _ | assumption | refine ba_alloc ?_ _ | refine ba_drew ?_ | refine ba_drewN ?_ _ | refine ba_via (by assumption) ?_ | (refine ba_set ?_ ?_ _; rotate_left; (first | omega | (simp; omega) | simp)))))).mono ?_); rintro e w' ⟨rfl, rfl⟩)
    | (go_at_call 162; (with_reducible refine (HF.out _ (size_via hB (by repeat (first | exact Below.refl _ _ | assumption | refine ba_alloc ?_ _ | refine ba_drew ?_ | refine ba_drewN ?_ _ | refine ba_via (by assumption) ?_ | (refine ba_set ?_ ?_ _; rotate_left; (first | omega | (simp; omega) | simp))))) (HA.out.at_ hB (by repeat (first | exact Below.refl _ _ | assumption | refine ba_alloc ?_ _ | refine ba_drew ?_ | refine ba_drewN ?_ _ | refine ba_via (by assumption) ?_ | (refine ba_set ?_ ?_ _; rotate_left; (first | omega | (simp; omega) | simp)))))).mono ?_); rintro e w2 ⟨rfl, hbw2⟩; obtain ⟨hcw2, hfw2⟩ := bcell hbw2; have hzw2_0 : w.heap.size < w2.heap.size := lt_via hbw2 (by first | omega | (simp; done) | (simp; omega))))
  have hbel : Below w.heap.size w w2 := (by repeat (first | exact Below.refl _ _ | assumption | refine ba_alloc ?_ _ | refine ba_drew ?_ | refine ba_drewN ?_ _ | refine ba_via (by assumption) ?_ | (refine ba_set ?_ ?_ _; rotate_left; (first | omega | (simp; omega) | simp))))
  exact bodyPost_ret (v := .agg #[.string r.b.mark, .int .i64 r.b.size, .int .i64 r.b.count, .int .i64 r.b.code, .slice r.A r.n r.c]) (by simp [results, Tryz.results102, go_sem, *]) rfl ⟨rfl, (((((hbel.setCell (Nat.le_refl _) _).setCell (Nat.le_refl _) _).setCell (Nat.le_refl _) _).setCell (Nat.le_refl _) _).setCell (Nat.le_refl _) _)⟩
set_option maxHeartbeats 2000000 in
theorem rpoints16_any (l : List BarR) (rs : List Rn) (A : Option Addr) (n c : Nat) (A' : Option Addr) (n' c' : Nat) (B : Nat) (w : World) (hB : B ≤ w.heap.size) (hA : BarsAt w B A n l) (hR : RunsAt w B A' n' rs) (i k j k0 : Nat) (r : BarR) (hL : Lies l rs i k j k0 r) (L : Nat) (hLL : (S.legsOf r.b.code).length = L) :
    Calls Tryz.prog 156 #[.slice A n c, .slice A' n' c', .int .i64 i] w (GivesOne 87 3 (L + 1) ((S.laidPath r.b (rs[k]'hL.st.lt) j).flatMap ptC) w) := by
  have HA := Lib.hid hA
  have hkx := hL.st.lt
  have hkn : k < n' := by have := hR.len; omega
  have hki : (k : Int) < (n' : Int) := by omega
  have HP := Lib.hid (fun (W : World) (hw : B ≤ W.heap.size) (hh : RunsAt W B A' n' rs) => rplace_any rs A' n' c' B W hw hh (fun k hk => (hL.cnt k hk).1) i k j hkx hL.st.sum hL.st.inr hL.lim)
  have HR := Lib.hid hR
  have HBR := Lib.hid (fun (W : World) (hw : B ≤ W.heap.size) (hh : BarsAt W B A n l) (hr : RunsAt W B A' n' rs) => rbar16_any l rs A n c A' n' c' B W hw hh hr i k j k0 r hL)
  obtain ⟨hk0, hrg⟩ := List.getElem?_eq_some_iff.1 hL.get
  have HE := Lib.hid (hrg ▸ hA.each l[k0] (List.getElem_mem hk0))
  have hok := hL.st.ok
  have hcn := hL.cnt k hkx
  have hjr := hL.st.inr
  have hst : 0 < j → S.near1 rs[k].step 2097152 = true := fun hj => by
    have h1 := hok.start 1 (by omega) (by omega)
    have h2 := hok.home
    obtain ⟨ax, ay, az⟩ := near1_out h2
    obtain ⟨bx, by', bz⟩ := near1_out h1
    rw [show S.plus rs[k].at_ rs[k].step 1 = ⟨rs[k].at_.x + 1 * rs[k].step.x, rs[k].at_.y + 1 * rs[k].step.y, rs[k].at_.z + 1 * rs[k].step.z⟩ from rfl] at bx by' bz
    simp only [S.near1, Bool.and_eq_true, decide_eq_true_eq]
    simp only [] at bx by' bz
    omega
  have HPT := Lib.hid (fun (W : World) (hw : B ≤ W.heap.size) (hh : BarAt W B r.A r.n r.b) => rpoints_any r.b rs[k] j r.A r.n r.c B W hw hh hok.bar hok.turn hok.home (by omega) hst L hLL)
  have hs' := hR.cells
  obtain ⟨b, o, hAe, hbB, _⟩ := hs'.at_ (by rw [flat_len rnC 10 rnC_len]; omega)
  subst hAe
  have c0 := hs'.row0 rnC_len hkx rfl
  have c1 := hs'.rowj rnC_len hkx 1 rfl
  have c2 := hs'.rowj rnC_len hkx 2 rfl
  have c3 := hs'.rowj rnC_len hkx 3 rfl
  have c4 := hs'.rowj rnC_len hkx 4 rfl
  have c5 := hs'.rowj rnC_len hkx 5 rfl
  have c6 := hs'.rowj rnC_len hkx 6 rfl
  have c7 := hs'.rowj rnC_len hkx 7 rfl
  have c8 := hs'.rowj rnC_len hkx 8 rfl
  have c9 := hs'.rowj rnC_len hkx 9 rfl
  have hb1 : b < w.heap.size := by omega
  clear hA hR hs' hrg hok hcn hjr hst
  generalize S.laidPath r.b rs[k] j = LP at *
  generalize rs[k] = rr at *
  unfold barV at HBR HPT
  unfold rnV at HPT
  go_enter Tryz.func156, Tryz.ntmps156
  go_wp2_with (first
    | (go_at_call 161; (with_reducible refine (HP.out _ (size_via hB (by repeat (first | exact Below.refl _ _ | assumption | refine ba_alloc ?_ _ | refine ba_drew ?_ | refine ba_drewN ?_ _ | refine ba_via (by assumption) ?_ | (refine ba_set ?_ ?_ _; rotate_left; (first | omega | (simp; omega) | simp))))) (HR.out.at_ hB (by repeat (first | exact Below.refl _ _ | assumption | refine ba_alloc ?_ _ | refine ba_drew ?_ | refine ba_drewN ?_ _ | refine ba_via (by assumption) ?_ | (refine ba_set ?_ ?_ _; rotate_left; (first | omega | (simp; omega) | simp)))))).mono ?_); rintro e w' ⟨rfl, rfl⟩))
  refine wp_region_mix 0 [3, 5] (by kernel_rfl) (by kernel_rfl) (of_decide_eq_true (by kernel_rfl)) ?_
  try simp only [wpSegs, List.take_succ_cons, List.take_zero, List.drop_succ_cons, List.drop_zero, List.take_nil, List.drop_nil]
  repeat (go_big_quiet_step (fail))
  refine wpQuiet_nil ?_
  show wpList _ _ _ _ _ _
  go_wp2_with ((go_at_call 102; (with_reducible refine (HBR.out _ (size_via hB (by repeat (with_reducible first | exact Below.refl _ _ | assumption | refine ba_alloc ?_ _ | refine ba_drew ?_ | refine ba_drewN ?_ _ | refine ba_via (by assumption) ?_ | (refine ba_set ?_ ?_ _; rotate_left; (first | omega | (simp; omega) | simp))))) (HA.out.at_ hB (by repeat (with_reducible first | exact Below.refl _ _ | assumption | refine ba_alloc ?_ _ | refine ba_drew ?_ | refine ba_drewN ?_ _ | refine ba_via (by assumption) ?_ | (refine ba_set ?_ ?_ _; rotate_left; (first | omega | (simp; omega) | simp))))) (HR.out.at_ hB (by repeat (with_reducible first | exact Below.refl _ _ | assumption | refine ba_alloc ?_ _ | refine ba_drew ?_ | refine ba_drewN ?_ _ | refine ba_via (by assumption) ?_ | (refine ba_set ?_ ?_ _; rotate_left; (first | omega | (simp; omega) | simp)))))).mono ?_); rintro e w1 ⟨rfl, hbw1⟩))
  refine seg_next (grow_to (by repeat (with_reducible first | exact Below.refl _ _ | assumption | refine ba_alloc ?_ _ | refine ba_drew ?_ | refine ba_drewN ?_ _ | refine ba_via (by assumption) ?_ | (refine ba_set ?_ ?_ _; rotate_left; (first | omega | (simp; omega) | simp))))) ?_
  try simp only [wpSegs, List.take_succ_cons, List.take_zero, List.drop_succ_cons, List.drop_zero, List.take_nil, List.drop_nil]
  repeat (go_big_quiet_step (fail))
  refine wpQuiet_nil ?_
  show wpList _ _ _ _ _ _
  go_wp2_with ((go_at_call 179; (with_reducible refine (HPT.out _ (size_via hB (by repeat (with_reducible first | exact Below.refl _ _ | assumption | refine ba_alloc ?_ _ | refine ba_drew ?_ | refine ba_drewN ?_ _ | refine ba_via (by assumption) ?_ | (refine ba_set ?_ ?_ _; rotate_left; (first | omega | (simp; omega) | simp))))) (HE.out.at_ hB (by repeat (with_reducible first | exact Below.refl _ _ | assumption | refine ba_alloc ?_ _ | refine ba_drew ?_ | refine ba_drewN ?_ _ | refine ba_via (by assumption) ?_ | (refine ba_set ?_ ?_ _; rotate_left; (first | omega | (simp; omega) | simp)))))).mono ?_); rintro e w2 ⟨A2, c2', rfl, ho2, hbw2⟩))
  refine seg_next (grow_to (by repeat (with_reducible first | exact Below.refl _ _ | assumption | refine ba_alloc ?_ _ | refine ba_drew ?_ | refine ba_drewN ?_ _ | refine ba_via (by assumption) ?_ | (refine ba_set ?_ ?_ _; rotate_left; (first | omega | (simp; omega) | simp))))) ?_
  try simp only [wpSegs, List.take_succ_cons, List.take_zero, List.drop_succ_cons, List.drop_zero, List.take_nil, List.drop_nil]
  repeat (go_big_quiet_step (fail))
  refine wpQuiet_nil ?_
  show wpList _ _ _ _ _ _
  go_wp2
  go_ret
  exact ⟨A2, c2', rfl, own_mono ho2 (show w.heap.size ≤ w1.heap.size from Below.size (w := w) (by repeat (with_reducible first | exact Below.refl _ _ | assumption | refine ba_alloc ?_ _ | refine ba_drew ?_ | refine ba_drewN ?_ _ | refine ba_via (by assumption) ?_ | (refine ba_set ?_ ?_ _; rotate_left; (first | omega | (simp; omega) | simp))))), (by repeat (with_reducible first | exact Below.refl _ _ | assumption | refine ba_alloc ?_ _ | refine ba_drew ?_ | refine ba_drewN ?_ _ | refine ba_via (by assumption) ?_ | (refine ba_set ?_ ?_ _; rotate_left; (first | omega | (simp; omega) | simp))))⟩
end Go.Proofs.YtffkmgjmlahfpaaGreat
set_option linter.unusedVariables false
set_option linter.unusedSimpArgs false
namespace Go.Proofs.YtffkmgjmlahfpaaGreat
open Go.RowKit
theorem forms_set2 {w0 w : World} {b : Nat} {T : TypeId} {z0 z1 : Value} (h0 : Below w0.heap.size w0 w) (hl : w0.heap.size ≤ b) (hb : Blk w b T #[z0, z1]) (v0 v1 : Value) :
    ∃ W, ((w.setCell ⟨b, 0, none⟩ v0).setCell ⟨b, 1, none⟩ v1) = W ∧ Below w0.heap.size w0 W ∧ Blk W b T #[v0, v1] := by
  refine ⟨_, rfl, ba_set (ba_set h0 hl _) hl _, ?_⟩
  have := (hb.set 0 v0).set 1 v1
  simpa only [List.setIfInBounds_toArray, List.set_cons_zero, List.set_cons_succ] using this
theorem wpList_load_gdF {P : Program} {ops : Array Oper} {rest : List Oper} {op : Oper} {a : Act} {w : World} {Q : Exit → Act → World → Prop} (hw : Region.wanted op (yielded ops a.tmps) = true) (ty : TypeId) (x : Operand) (ho : op.op = .load ty x)
    (b o : Nat) (hx : a.eval x = .pointer (some ⟨b, o, none⟩)) (cs : List Value) (d : TypeDesc) (hc : w.rangeAt b o cs)
    (hu : P.underlying ty = some d) (hd : d.isRow = true) (hi : (P.info? ty).map (·.size) = some cs.length)
    (h : wpList P ops Q rest (a.put op.dst (.agg cs.toArray)) w) : wpList P ops Q (op :: rest) a w := by
  unfold wpList
  rw [if_pos hw]
  exact .inl (wp_load_mid ty x ho b o hx cs d hc hu hd hi h)
theorem quietBy {w : World} {b o : Nat} {cs : List Value} (h : ∀ W, Below w.heap.size w W → W.rangeAt b o cs) : ∀ W, (∃ g, W = grow w g) → W.rangeAt b o cs := by
  rintro W ⟨g, rfl⟩
  exact h _ (grow_below _ _)
/-- A whole struct read in the quiet part of a region that draws its order. -/
theorem quietLoad {P : Program} {ops : Array Oper} {C : World → Prop} {Q : Act → Prop} {rest : List Oper} {op : Oper} {a : Act} (hw : Region.wanted op (yielded ops a.tmps) = true) (ty : TypeId) (x : Operand) (ho : op.op = .load ty x)
    (b o : Nat) (hx : a.eval x = .pointer (some ⟨b, o, none⟩)) (cs : List Value) (d : TypeDesc) (hS : ∀ w, C w → w.rangeAt b o cs)
    (hu : P.underlying ty = some d) (hd : d.isRow = true) (hi : (P.info? ty).map (·.size) = some cs.length)
    (h : ∀ a', a.put op.dst (.agg cs.toArray) = a' → wpQuiet P ops C Q rest a') : wpQuiet P ops C Q (op :: rest) a := by
  unfold wpQuiet
  rw [if_pos hw]
  refine ⟨.agg cs.toArray, fun w hw' => ?_, h _ rfl⟩
  unfold Oper.quietAt execOp
  simp only [ho, hx, Instr.loadAt, Instr.sureAddr, Sem.run_bind, Sem.run_pure, Result.andThen_ok, run_loadVar_mid w b o ty cs d (hS w hw') hu hd hi]
  exact ⟨rfl, rfl⟩
end Go.Proofs.YtffkmgjmlahfpaaGreat
