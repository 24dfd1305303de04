/- Lemmas. -/
import Derived.Test.YtmfpbafpnoomeaaGreatMAP
import Derived.Test.YtmfpbafpnoomeaaGreatMAV
import Derived.Test.YtmfpbafpnoomeaaGreatMAW
set_option linter.unusedVariables false
set_option linter.unusedSimpArgs false
namespace Go.Proofs.YtmfpbafpnoomeaaGreat
open Go.RowKit
section
variable {x : Dt} {ds : List Dm} {w : World}
theorem good_rOf (h : DtOk w x ds) (hlk : S.look x (S.dems ds) = true) (hC : (S.cOf x).length <= 100) {k : Nat} {d : Dm} (hk : ds[k]? = some d) {rs : List Rod} (hrs : RodsOf x (S.nOf x) rs) :
 ∀ W, Below w.heap.size w W -> Calls Tryz.prog 44 #[dtV x, .int .i64 k] W (GivesSt (S.supplyOf x rs (S.cOf x) d.zone) W) := fun W hw => by
 have hin := sch_span hlk hrs
 refine (rof26_core x (S.cOf x) k (S.schOf x rs) _ _ (fun p => S.supplyAt x rs (S.cOf x) d.zone p) W (says_at h hlk hk hrs hw) hC (fun e he => ?_) (fun U last hU hall => ?_) (fun p V hV => good_rAt h hlk hk p hrs V (hw.trans (hV.mono hw.size))) (fun V hV => good_rchains h hlk V (hw.trans (hV.mono hw.size)))).mono ?_
 ·unfold S.allEnds at he
  obtain ⟨c, hc, he⟩ := ends2_mem.1 he
  obtain ⟨h1, h2⟩ := List.mem_filter.1 hc
  have := hin c h1 h2
  rcases he with rfl | rfl <;> omega
 ·rw [refOf_same d.zone hU hall hin]
  exact sup_steps h hlk hC d.zone hrs
 ·rintro e w' ⟨U, last, A, c, hU, hall, rfl, hO, hb⟩
  rw [refOf_same d.zone hU hall hin] at hO ⊢
  exact ⟨A, c, rfl, hO, hb⟩
end
section
variable {x : Dt} {ds : List Dm} {w : World}
theorem good_rGiven (h : DtOk w x ds) (hlk : S.look x (S.dems ds) = true) {k : Nat} {dm : Dm} (hk : ds[k]? = some dm) : ∀ W, Below w.heap.size w W -> Calls Tryz.prog 43 #[dtV x, .int .i64 k] W fun e w' => e = .returned (.int .i64 0) /\ Below W.heap.size W w' := fun W hw => by
 have := any_rgiven27 h (k : Int) W hw
 rw [given27_yes h hlk hk] at this
 exact this
theorem dem_n (h : DtOk w x ds) (hlk : S.look x (S.dems ds) = true) {k : Nat} {dm : Dm} (hk : ds[k]? = some dm) : k < x.dn /\ dm.n <= 200 := by
 have hkx : k < ds.length := (List.getElem?_eq_some_iff.1 hk).1
 have hdl := h.dems.len
 have hst := (h.dems.each dm (List.mem_of_getElem? hk)).len
 have := (dem_steps hlk hk).2
 exact ⟨by omega, by omega⟩
theorem dem_at (h : DtOk w x ds) {k : Nat} {dm : Dm} (hk : ds[k]? = some dm) {W : World} (hw : Below w.heap.size w W) : ∀ V, Below W.heap.size W V -> StepsAt V W.heap.size dm.A dm.n dm.st := fun V hV =>
 (fun (a : StepsAt V w.heap.size dm.A dm.n dm.st) => (⟨a.len, a.max, a.cells.mono hw.size⟩ : StepsAt V W.heap.size dm.A dm.n dm.st)) ((h.dems.at_ (Nat.le_refl _) (hw.trans (hV.mono hw.size))).each dm (List.mem_of_getElem? hk))
theorem good_rSpans (h : DtOk w x ds) (hlk : S.look x (S.dems ds) = true) (hC : (S.cOf x).length <= 100) {k : Nat} {dm : Dm} (hk : ds[k]? = some dm) {rs : List Rod} (hrs : RodsOf x (S.nOf x) rs) :
 ∀ W, Below w.heap.size w W -> Calls Tryz.prog 15 #[dtV x, .int .i64 k] W (GivesSpn (S.spansL (S.partsD x rs dm)) W) := fun W hw =>
 rspans_yes x k (S.supplyOf x rs (S.cOf x) dm.zone) dm W (dem_n h hlk hk).1 (sup_steps h hlk hC dm.zone hrs) (sup_valid hlk hC hrs dm.zone) (dem_steps hlk hk).1 (dem_n h hlk hk).2
  (fun V hV => sec_dem h hk V (hw.trans (hV.mono hw.size))) (dem_at h hk hw) (fun V hV => good_rGiven h hlk hk V (hw.trans (hV.mono hw.size))) (fun V hV => good_rOf h hlk hC hk hrs V (hw.trans (hV.mono hw.size)))
end
end Go.Proofs.YtmfpbafpnoomeaaGreat
