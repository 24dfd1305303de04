/- Runs as data; contracts: laid.turned, laid.right. -/
import Derived.Test.YtnjflafaflalfaaRL
import Derived.Test.YtnjflafaflalfaaRZ
set_option linter.unusedVariables false
set_option linter.unusedSimpArgs false
namespace Go.Proofs.Ytnjflafaflalfaa
open Go.RowKit
structure Rn where
  mark : ByteArray
  tx : Int
  ty : Int
  at_ : Pt
  step : Pt
  count : Int
abbrev rnC (r : Rn) : List Value := [.string r.mark, .int .i64 r.tx, .int .i64 r.ty, .int .i64 r.at_.x, .int .i64 r.at_.y, .int .i64 r.at_.z, .int .i64 r.step.x, .int .i64 r.step.y, .int .i64 r.step.z, .int .i64 r.count]
abbrev rnV (r : Rn) : Value := .agg #[.string r.mark, .int .i64 r.tx, .int .i64 r.ty, .int .i64 r.at_.x, .int .i64 r.at_.y, .int .i64 r.at_.z, .int .i64 r.step.x, .int .i64 r.step.y, .int .i64 r.step.z, .int .i64 r.count]
theorem rnC_len (r : Rn) : (rnC r).length = 10 := rfl
def GivesOne (E size : Nat) (n : Nat) (xs : List Value) (w : World) (e : Ending) (w' : World) : Prop :=
  ∃ A c, e = .returned (.slice A n c) ∧ w'.ownsRow w.heap.size E size (.slice A n c) n xs ∧ Below w.heap.size w w'
theorem own_mono {w : World} {base base' E size : Nat} {v : Value} {n : Nat} {xs : List Value} (h : w.ownsRow base' E size v n xs) (hb : base ≤ base') : w.ownsRow base E size v n xs := by
  refine ⟨h.1, ?_⟩
  rcases h.2 with hn | ⟨g, cap, cur, rfl, hg, rest⟩
  · exact .inl hn
  · exact .inr ⟨g, cap, cur, rfl, Nat.le_trans hb hg, rest⟩
def S.barAt (l : List Bar) (m : ByteArray) : Option Bar := l[(S.index l m).toNat]?
def S.turned (b : Bar) (r : Rn) : List Pt := S.fpath r.tx r.ty ⟨0, 0, 0⟩ (S.path b)
theorem path_len (b : Bar) : (S.path b).length = (S.legsOf b.code).length + 1 := by simp [S.path, S.pathTo]
theorem fpath_le (x y : Int) (o : Pt) (l : List Pt) : (S.fpath x y o l).length ≤ l.length := by
  unfold S.fpath; split <;> simp
theorem turned_any (l : List BarR) (r : Rn) (k : Nat) (b : BarR) (A : Option Addr) (n c : Nat) (B : Nat) (w : World) (hB : B ≤ w.heap.size) (hA : BarsAt w B A n l) (hk : S.index (bars l) r.mark = (k : Int)) (hb : l[k]? = some b) (hv : S.bar b.b = true) :
    Calls Try.prog 60 #[.slice A n c, rnV r] w (GivesOne 70 3 (S.turned b.b r).length ((S.turned b.b r).flatMap ptC) w) := by
  have HA := Lib.hid hA
  obtain ⟨hkx, hkb⟩ := List.getElem?_eq_some_iff.1 hb
  have hkn : k < n := by have := hA.len; omega
  have hs' := hA.cells
  obtain ⟨bb, o, rfl, hbb, _⟩ := hs'.at_ (by rw [flat_len barC 5 barC_len]; omega)
  have hbb' : bb < w.heap.size := by omega
  have c0 := hs'.row0 barC_len hkx rfl
  have c1 := hs'.rowj barC_len hkx 1 rfl
  have c2 := hs'.rowj barC_len hkx 2 rfl
  have c3 := hs'.rowj barC_len hkx 3 rfl
  have c4 := hs'.rowj barC_len hkx 4 rfl
  have HE := Lib.hid (hA.each l[k] (List.getElem_mem hkx))
  rw [hkb] at c0 c1 c2 c3 c4 HE
  have HI := Lib.hid (fun (W : World) (hw : B ≤ W.heap.size) (hh : BarsAt W B (some ⟨bb, o, none⟩) n l) => hk ▸ lfind_any l r.mark (some ⟨bb, o, none⟩) n c B W hw hh)
  have HP := Lib.hid (fun (W : World) (hw : B ≤ W.heap.size) (hh : BarAt W B b.A b.n b.b) => path_yes b.b b.A b.n b.c B W hw hh hv)
  have hl6 := legs_len b.b.code
  have HT := Lib.hid (show S.turned b.b r = S.fpath r.tx r.ty ⟨0, 0, 0⟩ (S.path b.b) from rfl)
  have HF := Lib.hid (fun (W : World) (A' : Option Addr) (c' : Nat) (hh : Cells W W.heap.size A' ((S.path b.b).flatMap ptC)) => fpath_any r.tx r.ty ⟨0, 0, 0⟩ (S.path b.b) A' ((S.legsOf b.b.code).length + 1) c' W.heap.size W (path_len b.b) (by omega) (Nat.le_refl _) hh)
  have z91 : ∀ W, (Instr.build 70 #[]).run Try.prog W = .ok (.agg #[.int .i64 0, .int .i64 0, .int .i64 0]) W := fun _ => by kernel_rfl
  rw [HT.out]
  unfold barV at HP
  unfold turnV ptV at HF
  generalize S.fpath r.tx r.ty ⟨0, 0, 0⟩ (S.path b.b) = F at *
  generalize S.fpErr r.tx r.ty ⟨0, 0, 0⟩ (S.path b.b) = fe at *
  clear hA hs' hk hb hkb hv HT
  unfold rnV
  go_enter Try.func60, Try.ntmps60
  go_wp2_with (first
    | (go_at_call 57; (with_reducible refine (HI.out _ (by simp; omega) (HA.out.at_ hB bel)).mono ?_); rintro e w1 ⟨rfl, hbw1⟩; obtain ⟨hcw1, hfw1⟩ := bcell hbw1; have hzw1_0 : w.heap.size < w1.heap.size := lt_via hbw1 (by first | omega | (simp; done) | (simp; omega)))
    | (go_at_call 46; (with_reducible refine (HP.out _ (by have := hbw1.size; simp at this; omega) (HE.out.below (((Below.refl B w).alloc hB _).trans (hbw1.mono (by simp; omega))))).mono ?_); rintro e w2 ⟨Aw2, cw2, rfl, how2, hbw2⟩; obtain ⟨hcw2, hfw2⟩ := bcell hbw2; have hzw2_0 : w.heap.size < w2.heap.size := lt_via hbw2 (by first | omega | (simp; done) | (simp; omega)))
    | (go_at_call 47; (with_reducible refine (HF.out _ _ _ (own_cells how2 (by unfold maxLen; omega)).1).mono ?_); rintro e w3 ⟨Aw3, cw3, rfl, how3, hbw3⟩; obtain ⟨hcw3, hfw3⟩ := bcell hbw3; have hzw3_0 : w.heap.size < w3.heap.size := lt_via hbw3 (by first | omega | (simp; done) | (simp; omega))))
  go_ret
  have hbel : Below w.heap.size w w2 := bel
  exact ⟨_, _, rfl, own_mono how3 (by have := hbel.size; omega), hbel.trans (hbw3.mono hbel.size)⟩
end Go.Proofs.Ytnjflafaflalfaa
