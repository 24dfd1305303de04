/- Lemmas. -/
import Derived.Test.YtmfpbafpnoomeaaGreatMAF
set_option linter.unusedVariables false
set_option linter.unusedSimpArgs false
namespace Go.Proofs.YtmfpbafpnoomeaaGreat
open Go.RowKit
theorem spanL_at {x : Dt} {rs : List Rod} {l : List Int} {a b : Rod} (ha : rs[(l.headD 0).toNat]? = some a) (hb : rs[(l.getLastD 0).toNat]? = some b) : S.spanL x rs l = S.spanOf x a b := by
 unfold S.spanL
 rw [ha, hb]
def GivesSt (L : List Stp) (w : World) (e : Ending) (w' : World) : Prop :=
 ∃ (A : Option Addr) (c : Nat), e = .returned (.tuple #[.slice A L.length c, .int .i64 0]) /\ w'.ownsRow w.heap.size 136 2 (.slice A L.length c) L.length (L.flatMap stC) /\ Below w.heap.size w w'
theorem Of_err (x : Dt) (k : Int) (er : Int) (w : World) (he : (er == 0) = false)
 (hSU : ∀ W, Below w.heap.size w W -> Calls Tryz.prog 90 #[dtV x, .int .i64 k] W fun e w' => e = .returned (.tuple #[.slice none 0 0, .slice none 0 0, .int .i64 er]) /\ Below W.heap.size W w') :
 Calls Tryz.prog 69 #[dtV x, .int .i64 k] w fun e w' => e = .returned (.tuple #[.slice none 0 0, .int .i64 er]) /\ Below w.heap.size w w' := by
 have HSU := lh hSU
 have he2 : ¬ (er = 0) := by simpa using he
 clear hSU
 unfold dtV at HSU
 unfold dtV
 have hDB := Blk.new w 34 (dtc x)
 have hW1 : Below w.heap.size w (w.alloc (.cells (dtc x) 34)) := ba_alloc (Below.refl _ _) _
 go_enter Tryz.func69, Tryz.ntmps69
 go_upto_region 1 with fail
 generalize (w.alloc (.cells (dtc x) 34)) = W1 at *
 have HDB := lh hDB
 clear hDB
 go_wp2_with (first
  | ((with_reducible refine at_load 34 2 ?_); refine wpList_load_mid rfl 34 (.tmp 2) rfl _ _ rfl _ _ (HDB.out.via belr).range Tryz.underlying34 rfl (by kernel_rfl) ?_)
  | (go_at_call 90; (with_reducible refine (HSU.out _ belr).mono ?_); rintro e w2 ⟨rfl, hbw2⟩))
 go_ret2
 exact ⟨rfl, bel⟩
section
variable {x : Dt} {ds : List Dm} {w : World}
theorem sup_steps (h : DtOk w x ds) (hlk : S.look x (S.dems ds) = true) (hC : (S.cOf x).length <= 100) (z : Bx) {rs : List Rod} (hrs : RodsOf x (S.nOf x) rs) : (S.supplyOf x rs (S.cOf x) z).length <= 200 := by
 have g := look_ok hlk
 have hp := places_len ((S.cOf x).map (S.schOf x rs) |>.filter (S.sup rs z))
 have hf := List.length_filter_le (S.sup rs z) ((S.cOf x).map (S.schOf x rs))
 rw [List.length_map] at hf
 have h1 := shortStF_len (S.ofL ((S.cOf x).map (S.schOf x rs) |>.filter (S.sup rs z)))
 have h2 := ofF_len ((S.cOf x).map (S.schOf x rs) |>.filter (S.sup rs z)) (S.places ((S.cOf x).map (S.schOf x rs) |>.filter (S.sup rs z)))
 unfold S.supplyOf S.shortSt
 unfold S.ofL at h1 ⊢
 omega
theorem sch_span {rs : List Rod} (hlk : S.look x (S.dems ds) = true) (hrs : RodsOf x (S.nOf x) rs) : ∀ c, c ∈ (S.cOf x).map (S.schOf x rs) -> c.is = true -> -1048576 <= c.lo /\ c.lo < c.hi := fun c hc hi => by
 have g := look_ok hlk
 obtain ⟨l, hl, rfl⟩ := List.mem_map.1 hc
 obtain ⟨h0, _, h1⟩ := g.cin l hl
 have hpos : 0 < l.length := h0
 obtain ⟨a1, a2⟩ := h1 (l.headD 0) (by cases l with | nil => simp at hpos | cons a t => simp)
 obtain ⟨b1, b2⟩ := h1 (l.getLastD 0) (by cases l with | nil => simp at hpos | cons a t => rw [List.getLastD_cons]; exact List.getLastD_mem_cons)
 have ka : (l.headD 0).toNat < rs.length := by rw [hrs.len]; omega
 have kb : (l.getLastD 0).toNat < rs.length := by rw [hrs.len]; omega
 have hsp := spanL_at (x := x) (List.getElem?_eq_getElem ka) (List.getElem?_eq_getElem kb)
 change (S.spanL x rs l).2.2 = true at hi
 have hb := span_in (lo := (S.spanL x rs l).1) (hi := (S.spanL x rs l).2.1) g.rule (rod_fit (hrs.ok _ ka) g.laid) (rod_fit (hrs.ok _ kb) g.laid) (by rw [<- hsp, <- hi])
 exact ⟨hb.1, hb.2.1⟩
end
theorem sch_self {x : Dt} {n : Nat} {rs : List Rod} (hrs : RodsOf x n rs) {l : List Int} (h0 : 0 < l.length) (hin : ∀ i, i ∈ l -> 0 <= i /\ i < (n : Int)) : SchOk x rs l (S.schOf x rs l) := by
 obtain ⟨a1, a2⟩ := hin (l.headD 0) (by cases l with | nil => simp at h0 | cons a t => simp)
 obtain ⟨b1, b2⟩ := hin (l.getLastD 0) (by cases l with | nil => simp at h0 | cons a t => rw [List.getLastD_cons]; exact List.getLastD_mem_cons)
 have ka : (l.headD 0).toNat < rs.length := by rw [hrs.len]; omega
 have kb : (l.getLastD 0).toNat < rs.length := by rw [hrs.len]; omega
 exact ⟨rfl, rfl, _, _, List.getElem?_eq_getElem ka, List.getElem?_eq_getElem kb, spanL_at (x := x) (List.getElem?_eq_getElem ka) (List.getElem?_eq_getElem kb)⟩
theorem sup_valid {x : Dt} {ds : List Dm} {rs : List Rod} (hlk : S.look x (S.dems ds) = true) (hC : (S.cOf x).length <= 100) (hrs : RodsOf x (S.nOf x) rs) (z : Bx) : S.steps (S.supplyOf x rs (S.cOf x) z) = true := by
 have g := look_ok hlk
 have h := of_steps hC g.cin g.laid g.rule z rs ((S.cOf x).map (S.schOf x rs)) hrs (by simp) (fun i hi hj => by
  obtain ⟨h0, _, h1⟩ := g.cin _ (List.getElem_mem hj)
  rw [List.getElem_map]
  exact sch_self hrs h0 h1)
 unfold S.supplyOf
 rw [short_ofL, <- ofL_sh]
 exact h
end Go.Proofs.YtmfpbafpnoomeaaGreat
