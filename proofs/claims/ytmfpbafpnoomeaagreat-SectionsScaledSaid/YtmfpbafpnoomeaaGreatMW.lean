/- Lemmas. -/
import Derived.Shelf.Abstract
import Derived.Test.YtmfpbafpnoomeaaGreatMV
import Derived.Test.YtmfpbafpnoomeaaGreatMS
set_option linter.unusedVariables false
set_option linter.unusedSimpArgs false
namespace Go.Proofs.YtmfpbafpnoomeaaGreat
open Go.RowKit Go.Shelf
attribute [local go_sem] Oper.semAt_some
theorem lies_unique {l : List BarR} {rs : List Rn} {i k j k0 k' j' k0' : Nat} {r r' : BarR} (h : Lies l rs i k j k0 r) (h' : Lies l rs i k' j' k0' r') : k = k' /\ j = j' /\ k0 = k0' /\ r = r' := by
 have hc : ∀ q (hq : q < rs.length), 0 <= rs[q].count := fun q hq => (h.cnt q hq).1
 have key : ∀ {a b c d : Nat} (ha : a < rs.length) (hb : b < rs.length), (i : Int) = S.sumTo rs a + c -> (c : Int) < rs[a].count -> (i : Int) = S.sumTo rs b + d -> ¬ a < b := by
  intro a b c d ha hb h1 h2 h3 hab
  have h4 := sumTo_mono (rs := rs) hc (show a + 1 <= b by omega) (by omega)
  rw [sumTo_succ rs ha] at h4
  omega
 have hk : k = k' := by
  have h1 := key h.st.lt h'.st.lt h.st.sum h.st.inr h'.st.sum
  have h2 := key h'.st.lt h.st.lt h'.st.sum h'.st.inr h.st.sum
  omega
 subst hk
 have hj : j = j' := by
  have h1 := h.st.sum
  have h2 := h'.st.sum
  omega
 subst hj
 have hk0 : k0 = k0' := by
  have h1 := h.st.ok.index
  have h2 := h'.st.ok.index
  omega
 subst hk0
 have h1 := h.get
 rw [h'.get] at h1
 injection h1 with h1
 exact ⟨rfl, rfl, rfl, h1.symm⟩
theorem lies_lt {l : List BarR} {rs : List Rn} {i k j k0 : Nat} {r : BarR} (h : Lies l rs i k j k0 r) : (i : Int) < S.sumAll rs := by
 have hc : ∀ q (hq : q < rs.length), 0 <= rs[q].count := fun q hq => (h.cnt q hq).1
 have h1 := sumTo_mono (rs := rs) hc (show k + 1 <= rs.length by have := h.st.lt; omega) (Nat.le_refl _)
 rw [sumTo_succ rs h.st.lt] at h1
 have h2 := h.st.sum
 have h3 := h.st.inr
 show (i : Int) < S.sumTo rs rs.length
 omega
theorem lall_any (A A' : Option Addr) (n c n' c' : Nat) (w : World) :
 Calls Tryz.prog 269 #[.slice A n c, .slice A' n' c'] w fun e w' => e = .returned (.func (.func 275) #[] #[.pointer (some ⟨w.heap.size + 1, 0, none⟩), .pointer (some ⟨w.heap.size, 0, none⟩)]) /\ Blk w' w.heap.size 27 #[.slice A n c] /\ Blk w' (w.heap.size + 1) 28 #[.slice A' n' c'] /\ Below w.heap.size w w' := by
 have h2 := (Blk.new w 27 #[.slice A n c]).alloc (.cells #[.slice A' n' c'] 28)
 have h3 := Blk.newN (W := w.alloc (.cells #[.slice A n c] 27)) (n := w.heap.size + 1) (by simp) 28 #[.slice A' n' c']
 go_enter Tryz.func269, Tryz.ntmps269
 go_wp2
 go_ret
 exact ⟨rfl, h2, h3, bel⟩
theorem put_blk {W : World} {l g : Nat} {o : Obj} {T : TypeId} {cs : Array Value} (h : Blk W g T cs) (hl : W.heap[l]? = some o) (hc : o.isCells = false) (o' : Obj) : Blk (W.putObj l o') g T cs := by
 refine (World.putObj_heap_other (fun e => ?_)).trans h
 subst e
 unfold Blk at h
 rw [h] at hl
 cases hl
 cases hc
theorem KpL.refl (B : Nat) (M : List Nat) (A : World) : KpL B M A A := ⟨Below.refl _ _, fun _ _ _ _ _ h => h⟩
theorem KpL.trans {B : Nat} {M : List Nat} {A C D : World} (h : KpL B M A C) (k : KpL B M C D) : KpL B M A D := ⟨h.bel.trans k.bel, fun q cs t fr hq hh => k.cells q cs t fr hq (h.cells q cs t fr hq hh)⟩
theorem KpL.put {B : Nat} {M : List Nat} {W : World} {l : Nat} {o : Obj} (o' : Obj) (hB : B <= l) (hl : W.heap[l]? = some o) (hc : o.isCells = false) : KpL B M W (W.putObj l o') :=
 ⟨⟨rfl, rfl, rfl, by simp, fun k hk => World.putObj_heap_other (by omega)⟩, fun k cs t fr _ hh => (World.putObj_heap_other (fun e => by subst e; rw [hh] at hl; cases hl; cases hc)).trans hh⟩
theorem KpL.set {B : Nat} {M : List Nat} {A W : World} (h : KpL B M A W) {p : Addr} (hp : p.block ∈ M) (hB : B <= p.block) (u : Value) : KpL B M A (W.setCell p u) :=
 ⟨h.bel.setCell hB u, fun k cs t fr hk hh => (Below.heap_setCell W p u k (fun e => hk (e ▸ hp))).trans (h.cells k cs t fr hk hh)⟩
theorem itR_put {x : Dt} {n0 : Nat} {pre : List It} {y : It} {V : World} (h : itR x n0 pre y V) {l : Nat} {o : Obj} (hl : V.heap[l]? = some o) (hc : o.isCells = false) (o' : Obj) : itR x n0 pre y (V.putObj l o') := by
 obtain ⟨h1, h2, g, h3, h4, h5⟩ := h
 exact ⟨h1, h2, g, h3, h4, put_blk h5 hl hc o'⟩
set_option maxRecDepth 20000 in
set_option maxHeartbeats 8000000 in
theorem lpath_any (x : Dt) (i : Nat) (B : Nat) (w : World) (hB : B <= w.heap.size) (hA : DtAt w B x) (h : S.laid (bars x.bs) x.rs = true) {k j k0 : Nat} {r : BarR} (hL : Lies x.bs x.rs i k j k0 r) :
 Calls Tryz.prog 257 #[.slice x.bA x.bn x.bc, .slice x.rA x.rn x.rc, .int .i64 i] w fun e w' => ∃ g, e = .returned (.tuple #[.slice (some ⟨g, 0, none⟩) (S.laidPath r.b (x.rs[k]'hL.st.lt) j).length (S.laidPath r.b (x.rs[k]'hL.st.lt) j).length, .int .i64 0]) /\ w.heap.size <= g /\ Blk w' g 76 ((S.laidPath r.b (x.rs[k]'hL.st.lt) j).flatMap ptC).toArray /\ Below w.heap.size w w' := by
 refine (callsIn_wide (n := 6)).1 ?_
 have HLV := lh (fun (W : World) (hw : Below w.heap.size w W) => h ▸ laid_any x.bs x.rs x.bA x.bn x.bc x.rA x.rn x.rc B W (size_via hB hw) (hA.at_ hB hw).bars (hA.at_ hB hw).runs)
 have HAL := lh (fun (W : World) => lall_any x.bA x.rA x.bn x.bc x.rn x.rc W)
 refine callsIn_of_wp_marks Tryz.func257 rfl trivial ?_ rfl
 simp only [Tryz.ntmps257, List.size_toArray, List.length_cons, List.length_nil, Nat.reduceAdd, Nat.reduceSub, Array.replicate_succ, Array.replicate_zero, List.push_toArray, List.append_toArray, List.nil_append, List.cons_append]
 gi_wp2_with (first
  | (refine ⟨trivial, ?_⟩; gi_at_call 112; refine (callsIn_wide.2 (HLV.out _ belr)).mono ?_; rintro e w1 ⟨rfl, hbw1⟩)
  | (refine ⟨trivial, ?_⟩; gi_at_call 269; refine (callsIn_wide.2 (HAL.out _)).mono ?_; rintro e w2 ⟨rfl, hb2, hb3, hbw2⟩))
 have hW0 : Below w.heap.size w (((w.alloc (.cells #[.int .i64 i] 3)).alloc (.cells #[.slice none 0 0] 229)).alloc (.cells #[.int .i64 0] 37)) := ba_alloc (ba_alloc (ba_alloc (Below.refl _ _) _) _) _
 have hB5 := ((Blk.new w 3 #[.int .i64 i]).alloc (.cells #[.slice none 0 0] 229)).alloc (.cells #[.int .i64 0] 37)
 have hB6 := (Blk.newN (W := w.alloc (.cells #[.int .i64 i] 3)) (n := w.heap.size + 1) (by simp) 229 #[.slice none 0 0]).alloc (.cells #[.int .i64 0] 37)
 have hB7 := Blk.newN (W := (w.alloc (.cells #[.int .i64 i] 3)).alloc (.cells #[.slice none 0 0] 229)) (n := w.heap.size + 1 + 1) (by simp) 37 #[.int .i64 0]
 have hs0 : (((w.alloc (.cells #[.int .i64 i] 3)).alloc (.cells #[.slice none 0 0] 229)).alloc (.cells #[.int .i64 0] 37)).heap.size = w.heap.size + 3 := by simp
 have hb02 := hbw1.trans (hbw2.mono hbw1.size)
 have hs1 := hbw1.size
 have hs2 := hbw2.size
 have hb5 := hB5.via hb02
 have hb6 := hB6.via hb02
 have hb7 := hB7.via hb02
 have hbW2 : Below w.heap.size w w2 := ba_via hb02 hW0
 rw [hs0] at hs1
 have hl2 := hb2.lt
 have hl3 := hb3.lt
 have hAw2 : DtAt w2 B x := hA.at_ hB hbW2
 clear hbw1 hbw2 hB5 hB6 hB7 hW0 hs0 hb02 HLV HAL
 generalize w1.heap.size = d2 at *
 have hlim := hL.lim
 refine wpIn_rangeFunc_laid (α := It) (encs := itE) (Kp := KpL B [w.heap.size + 1, w.heap.size + 1 + 1]) (R := itR x w2.heap.size) (S := fun xs => (xs.length : Int) = S.sumAll x.rs) (w0 := w2) rfl (by omega) (gf := 275) (lb := #[.pointer (some ⟨d2 + 1, 0, none⟩), .pointer (some ⟨d2, 0, none⟩)]) rfl trivial (enters_of Tryz.func275 (by kernel_rfl) rfl)
  (lall_laid x B w2.heap.size [w.heap.size + 1, w.heap.size + 1 + 1] d2 (d2 + 1) _ w2 (by omega) (by omega) (Nat.le_refl _) (by intro q hq; simp at hq; omega) (by simp; omega) (by simp; omega) hAw2 h hb3 hb2)
  (fun hh kk => hh.trans kk) (fun W l o o' hl ho hc _ => KpL.put o' (by omega) ho hc)
  (fun pre y V V' hR l o o' hl ho hc e => by subst e; exact itR_put hR ho hc o')
  (Below.refl _ _) (fun _ => rfl)
  (fun pre W => pre.length <= i /\ Blk W w.heap.size 3 #[.int .i64 i] /\ Blk W (w.heap.size + 1) 229 #[.slice none 0 0] /\ Blk W (w.heap.size + 1 + 1) 37 #[.int .i64 0] /\ Below w.heap.size w W)
  (fun c pre W => c = .ret /\ ∃ p0 y, pre = p0 ++ [y] /\ y.k = i /\ Blk W (w.heap.size + 1) 229 #[.slice y.A y.pts.length y.pts.length] /\ Blk W (w.heap.size + 1 + 1) 37 #[.int .i64 0] /\ Below w.heap.size w W)
  ?abI ?abX ⟨Nat.zero_le _, hb5, hb6, hb7, hbW2⟩
  (fun y => { tmps := #[.slice x.bA x.bn x.bc, .slice x.rA x.rn x.rc, .int .i64 i, undef, undef, .pointer (some ⟨w.heap.size, 0, none⟩), .pointer (some ⟨w.heap.size + 1, 0, none⟩), .pointer (some ⟨w.heap.size + 1 + 1, 0, none⟩), .int .i64 y.k, .slice y.A y.pts.length y.pts.length, .slice x.bA x.bn x.bc, .slice x.rA x.rn x.rc, .bool true, .bool false, .slice x.bA x.bn x.bc, .slice x.rA x.rn x.rc, .func (.func 275) #[] #[.pointer (some ⟨d2 + 1, 0, none⟩), .pointer (some ⟨d2, 0, none⟩)], .int .i64 y.k, .slice y.A y.pts.length y.pts.length, undef, undef, undef, undef], defers := [] }) ?assign ?body ?done ?stop
 case abI =>
  rintro pre A C ⟨h1, h5, h6, h7, hbA⟩ hb
  exact ⟨h1, (hb.block _ (by omega)).trans h5, (hb.block _ (by omega)).trans h6, (hb.block _ (by omega)).trans h7, hbA.trans (hb.mono (by omega))⟩
 case abX =>
  rintro c pre A C ⟨h1, p0, y, h2, h3, h6, h7, hbA⟩ hb
  exact ⟨h1, p0, y, h2, h3, (hb.block _ (by omega)).trans h6, (hb.block _ (by omega)).trans h7, hbA.trans (hb.mono (by omega))⟩
 case assign =>
  intro l y W K hK
  gi_wp2
  exact hK
 case body =>
  rintro l pre y W ⟨h1, h5, h6, h7, hbW⟩ hR
  have c5 := h5.cell 0
  have c6 := h6.cell 0
  have c7 := h7.cell 0
  have f6 := h6.frozen 0
  have f7 := h7.frozen 0
  have l5 := h5.lt
  have l6 := h6.lt
  have l7 := h7.lt
  simp only [ga1, ga2, ga3] at c5 c6 c7
  cases hk : ((y.k : Int) == (i : Int))
  ·have hne : y.k ≠ i := fun e => by rw [e] at hk; simp at hk
   have HNE := lh hne
   clear hne
   gi_wp2
   exact ⟨KeepsOthers.refl _, KpL.refl _ _ _, by have := hR.1; have := HNE.out; simp; omega, h5, h6, h7, hbW⟩
  ·have heq : y.k = i := by have := beq_iff_eq.1 hk; omega
   have HEQ := lh heq
   clear heq
   gi_wp2
   refine ⟨(KeepsOthers.setCell _ _ _).trans (KeepsOthers.setCell _ _ _), ((KpL.refl _ _ _).set (by simp) (by simp; omega) _).set (by simp) (by simp; omega) _, rfl, pre, y, rfl, HEQ.out, ?_, ?_, ?_⟩
   ·have := (h6.set 0 (.slice y.A y.pts.length y.pts.length)).far (p := ⟨w.heap.size + 1 + 1, 0, none⟩) (by simp) (.int .i64 0)
    simpa using this
   ·have := (h7.far (p := ⟨w.heap.size + 1, 0, none⟩) (by simp) (.slice y.A y.pts.length y.pts.length)).set 0 (.int .i64 0)
    simpa using this
   ·exact (hbW.setCell (p := ⟨w.heap.size + 1, 0, none⟩) (by simp) _).setCell (p := ⟨w.heap.size + 1 + 1, 0, none⟩) (by simp; omega) _
 case done =>
  rintro D xs W hD hS ⟨h1, _⟩ hK
  have := lies_lt hL
  omega
 case stop =>
  rintro D c pre y W hD ⟨rfl, p0, y', hp, hk, h6, h7, hbW⟩ hR hK
  obtain ⟨rfl, e⟩ := List.append_inj' hp rfl
  simp only [List.cons.injEq, and_true] at e
  subst e
  gi_wp2
  refine ⟨by simp, .inl ⟨_, _, rfl, run_takeDeferred hK, ?_⟩⟩
  have c6 := (put_blk h6 hK rfl (.deferred none)).cell 0
  have c7 := (put_blk h7 hK rfl (.deferred none)).cell 0
  simp only [ga1, ga2, ga3] at c6 c7
  obtain ⟨_, ⟨k', j', k0', r', hL', hpts⟩, g, hgA, hgn, hBg⟩ := hR
  rw [hk] at hL'
  obtain ⟨rfl, rfl, rfl, rfl⟩ := lies_unique hL' hL
  refine ⟨.tuple #[.slice y.A y.pts.length y.pts.length, .int .i64 0], ?_, g, by rw [hgA, <- hpts], by omega, by rw [<- hpts]; exact put_blk hBg hK rfl _, hbW.trans ⟨rfl, rfl, rfl, by simp, fun q hq => World.putObj_heap_other (by omega)⟩⟩
  simp [results, Tryz.f257, go_sem, c6, c7]
end Go.Proofs.YtmfpbafpnoomeaaGreat
namespace Go.Proofs.YtmfpbafpnoomeaaGreat
open Go.RowKit
set_option maxRecDepth 20000 in
set_option maxHeartbeats 2000000 in
theorem lpoints_any (l : List Pt) (A : Option Addr) (n c : Nat) (B : Nat) (w : World) (hB : B <= w.heap.size) (hn : l.length = n) (hm : n <= 1000) (hs : Cells w B A (l.flatMap ptC)) :
 Calls Tryz.prog 259 #[.slice A n c] w (GivesOne 78 6 n ((l.map S.ptBox).flatMap boxC) w) := by
 have HN := lh hn
 have HT := lh (fun (k : Nat) (hk : k < l.length) => show ((l.take (k + 1)).map S.ptBox).flatMap boxC = ((l.take k).map S.ptBox).flatMap boxC ++ boxC (S.ptBox l[k]) from by
  rw [List.take_succ_eq_append_getElem hk, List.map_append, List.flatMap_append]
  simp)
 have HTK := lh (show l.take n = l from List.take_of_length_le (by omega))
 clear hn
 go_enter Tryz.func259, Tryz.ntmps259
 go_wp2
 go_loopw [3, 8] (fun v i wr => ∃ (q : Nat) (A3 : Option Addr) (c3 : Nat), q <= n /\ i = .int .i64 q /\ v = .slice A3 q c3 /\ Row w wr none w.heap.size 78 6 (.slice A3 q c3) q (((l.take q).map S.ptBox).flatMap boxC) /\ Exc [] w wr) (fun _ i _ => n - (intOf i).toNat)
 case atStart => exact ⟨0, none, 0, Nat.zero_le _, rfl, rfl, by simpa using Row.none_ _ _ _ _, Exc.refl _ _⟩
 case round =>
  obtain ⟨q, A3, c3, hq, rfl, rfl, hRW, hX⟩ := hrel
  have hbx : Below w.heap.size w wr := hX.below (Nat.le_refl _) (by simp)
  by_cases hlt : q < n
  ·have hqx : q < l.length := by have := HN.out; omega
   have hqi : (q : Int) < n := by omega
   have hs' := hs.below (hbx.mono hB)
   obtain ⟨b, o, rfl, hbB, hxx⟩ := hs'.at_ (by rw [flat_len ptC 3 ptC_len]; omega)
   clear hxx
   have c0 := hs'.row0 ptC_len hqx rfl
   have c1 := hs'.rowj ptC_len hqx 1 rfl
   have c2 := hs'.rowj ptC_len hqx 2 rfl
   have hbl : b < wr.heap.size := by have := hbx.size; omega
   have HTQ := lh (HT.out q hqx)
   clear hs'
   generalize l[q] = p at *
   go_upto_region 5 with fail
   have hR2 := hRW.alloc (.cells #[.int .i64 p.x, .int .i64 p.y, .int .i64 p.z] 76)
   have hX2 := hX.alloc (.cells #[.int .i64 p.x, .int .i64 p.y, .int .i64 p.z] 76)
   have hB2 := Blk.new wr 76 #[.int .i64 p.x, .int .i64 p.y, .int .i64 p.z]
   generalize (wr.alloc (.cells #[.int .i64 p.x, .int .i64 p.y, .int .i64 p.z] 76)) = W2 at *
   have s0 := hB2.cell 0
   have s1 := hB2.cell 1
   have s2 := hB2.cell 2
   have sl := hB2.lt
   simp only [ga1, ga2, ga3] at s0 s1 s2
   go_wp2_with (at_builtin; refine wpList_push rfl (.tmp 12) (.tmp 16) _ rfl elemBx (hR2.alloc _) (hX2.alloc _) (by simp) (Nat.le_refl _) rfl W2.heap.size 1 1 [.int .i64 p.x, .int .i64 p.y, .int .i64 p.z, .int .i64 p.x, .int .i64 p.y, .int .i64 p.z] rfl rfl ?_ (by simp [Value.oneCell']) (by unfold maxLen; omega) (by omega) ?_; (· intro j u hu; exact by have := (Cells.newRow W2 #[.int .i64 p.x, .int .i64 p.y, .int .i64 p.z, .int .i64 p.x, .int .i64 p.y, .int .i64 p.z] 78 (0, 0)).get (k := j) (v := u) hu; rwa [Nat.zero_add] at this); intro v' w' hR' hX' hO')
   obtain ⟨A5, c5, rfl, _, _, _⟩ := own_form hR'.own (by unfold maxLen; omega)
   go_roundw
   case rel => exact ⟨q + 1, A5, c5, by omega, by go_num, rfl, by rw [HTQ.out]; exact hR', hX'⟩
   case measure => simp [intOf]; omega
  ·have he : q = n := by omega
   subst he
   go_wp2
   go_ret
   rw [HTK.out] at hRW
   exact ⟨A3, c3, rfl, hRW.own, hbx⟩
theorem ptBox_ok {p : Pt} (h : S.near1 p 1048576 = true) : S.boxOk (S.ptBox p) = true := by
 obtain ⟨ax, ay, az⟩ := near1_out h
 simp only [S.boxOk, S.okAx, Bool.and_eq_true, decide_eq_true_eq]
 refine ⟨⟨⟨⟨?_, ?_⟩, ?_⟩, ⟨?_, ?_⟩, ?_⟩, ⟨?_, ?_⟩, ?_⟩ <;> first | exact Int.le_refl _ | exact ax.1 | exact ax.2 | exact ay.1 | exact ay.2 | exact az.1 | exact az.2
set_option maxRecDepth 20000 in
set_option maxHeartbeats 4000000 in
theorem llegs_any (x : Dt) (i : Nat) (B : Nat) (w : World) (hB : B <= w.heap.size) (hA : DtAt w B x) (h : S.laid (bars x.bs) x.rs = true) {k j k0 : Nat} {r : BarR} (hL : Lies x.bs x.rs i k j k0 r) (L : Nat) (hLL : (S.legsOf r.b.code).length = L) :
 Calls Tryz.prog 226 #[.slice x.bA x.bn x.bc, .slice x.rA x.rn x.rc, .int .i64 i] w (GivesRow 78 6 L ((S.legsL (S.laidPath r.b (x.rs[k]'hL.st.lt) j)).flatMap boxC) 0 w) := by
 have HP := lh (fun (W : World) (hw : Below w.heap.size w W) => lpath_any x i B W (size_via hB hw) (hA.at_ hB hw) h hL)
 have hnear : S.near (S.laidPath r.b (x.rs[k]'hL.st.lt) j) 1048576 = true := by
  have hr := h
  simp only [S.laid, Bool.and_eq_true] at hr
  exact laid_near hL.st.ok (runs_in hr.2 (List.getElem_mem hL.st.lt)) hL.st.inr
 have HNR := lh (fun (q : Nat) (hq : q < (S.laidPath r.b (x.rs[k]'hL.st.lt) j).length) => show S.near1 (S.ptD (S.laidPath r.b (x.rs[k]'hL.st.lt) j) q) 1048576 = true from by
  have := near_in hnear hq
  simpa [S.ptD, List.getElem?_eq_getElem hq] using this)
 have HLP := lh (show (S.laidPath r.b (x.rs[k]'hL.st.lt) j).length = L + 1 by rw [laidPath_len, hLL])
 have hl6 := legs_len r.b.code
 rw [hLL] at hl6
 clear hA hnear
 generalize S.laidPath r.b (x.rs[k]'hL.st.lt) j = LP at *
 clear hL hLL h
 have HLL := lh (show S.legsL LP = S.legsTo LP L by rw [S.legsL, HLP.out]; rfl)
 have HLS := lh (fun m => legsTo_snoc LP m)
 have HTW := lh (fun (p q : Pt) (hp : S.near1 p 1048576 = true) (hq : S.near1 q 1048576 = true) (W : World) (A : Option Addr) (c B' : Nat) (hw : B' <= W.heap.size) (hs : Cells W B' A ([S.ptBox p, S.ptBox q].flatMap boxC)) =>
  hull_two p q ▸ bhull_yes A 2 c [S.ptBox p, S.ptBox q] (S.ptBox p) B' W rfl (by omega) hw hs rfl (by simp [anyb, S.boxNot, ptBox_ok hp, ptBox_ok hq]))
 rw [HLP.out] at HP
 unfold boxV at HTW
 go_enter Tryz.func226, Tryz.ntmps226
 go_wp2_with (first
  | (go_at_call 257; (with_reducible refine (HP.out _ belr).mono ?_); rintro e w1 ⟨g1, rfl, hg1, hB1, hbw1⟩))
 have hs1 : Cells w1 w1.heap.size (some ⟨g1, 0, none⟩) (LP.flatMap ptC) := .inr ⟨g1, 0, rfl, hB1.lt, fun q v hv => by rw [Nat.zero_add]; exact (hB1.cell q).trans (by simpa using hv)⟩
 have hbw : Below w.heap.size w w1 := hbw1
 clear hbw1 hB1
 go_loopw [10, 11] (fun v i wr => ∃ (q : Nat) (A3 : Option Addr) (c3 : Nat), q <= L /\ i = .int .i64 ((q + 1 : Nat) : Int) /\ v = .slice A3 q c3 /\ Row w1 wr none w.heap.size 78 6 (.slice A3 q c3) q ((S.legsTo LP q).flatMap boxC) /\ Exc [] w1 wr) (fun _ i _ => L + 1 - (intOf i).toNat)
 case atStart => exact ⟨0, none, 0, Nat.zero_le _, rfl, rfl, by simpa [S.legsTo] using Row.none_ _ _ _ _, Exc.refl _ _⟩
 case round =>
  obtain ⟨q, A3, c3, hq, rfl, rfl, hRW, hX⟩ := hrel
  have hbx : Below w1.heap.size w1 wr := hX.below (Nat.le_refl _) (by simp)
  have hsz := hbx.size
  by_cases hlt : q < L
  ·have hs' := hs1.below hbx
   have hs2 := Cells.two (k := q) hs' (by have := HLP.out; omega)
   have hp1 := HNR.out q (by have := HLP.out; omega)
   have hp2 := HNR.out (q + 1) (by have := HLP.out; omega)
   have HTq := lh (fun (W : World) (A : Option Addr) (c B' : Nat) (hw : B' <= W.heap.size) (hs : Cells W B' A (([S.ptD LP q, S.ptD LP (q + 1)].map S.ptBox).flatMap boxC)) => HTW.out _ _ hp1 hp2 W A c B' hw hs)
   have HPT := lh (fun (W : World) (hw : Below wr.heap.size wr W) (A : Option Addr) (c : Nat) (hs : Cells W w1.heap.size A ([S.ptD LP q, S.ptD LP (q + 1)].flatMap ptC)) => lpoints_any [S.ptD LP q, S.ptD LP (q + 1)] A 2 c w1.heap.size W (by have := hw.size; omega) rfl (by omega) hs)
   have HSq := lh (show (S.legsTo LP (q + 1)).flatMap boxC = (S.legsTo LP q).flatMap boxC ++ boxC (S.legB (S.ptD LP q) (S.ptD LP (q + 1))) by rw [HLS.out, List.flatMap_append]; simp)
   generalize S.legB (S.ptD LP q) (S.ptD LP (q + 1)) = X at *
   generalize ([S.ptD LP q, S.ptD LP (q + 1)].map S.ptBox).flatMap boxC = P3 at *
   generalize [S.ptD LP q, S.ptD LP (q + 1)].flatMap ptC = P2 at *
   have hki : (q : Int) + 1 < (L : Int) + 1 := by omega
   have hq6 : q <= 6 := by omega
   have hcp : q + 1 + 1 <= L + 1 := by omega
   have hcpi : (q : Int) + 1 + 1 <= (L : Int) + 1 := by omega
   have e2 : q + 1 + 1 - q = 2 := by omega
   clear hp1 hp2 hs'
   rw [Nat.zero_add] at hs2
   go_upto_region 9 with (first
    | (go_at_call 259; (with_reducible refine (HPT.out _ belr _ _ (hs2.below (Below.mono belr hsz))).mono ?_); rintro e w2 ⟨A2, c2, rfl, how2, hbw2⟩)
    | (go_at_call 258; (with_reducible refine (HTq.out _ _ _ _ (Nat.le_refl _) (own_cells how2 (by unfold maxLen; omega)).1).mono ?_); rintro e w3 ⟨rfl, hbw3⟩))
   have hb3 : Below wr.heap.size wr (w3.alloc (.cells #[.int .i64 X.lo.x, .int .i64 X.lo.y, .int .i64 X.lo.z, .int .i64 X.hi.x, .int .i64 X.hi.y, .int .i64 X.hi.z] 78)) := ba_alloc (ba_via hbw3 hbw2) _
   have hB3 := Blk.new w3 78 #[.int .i64 X.lo.x, .int .i64 X.lo.y, .int .i64 X.lo.z, .int .i64 X.hi.x, .int .i64 X.hi.y, .int .i64 X.hi.z]
   generalize (w3.alloc (.cells #[.int .i64 X.lo.x, .int .i64 X.lo.y, .int .i64 X.lo.z, .int .i64 X.hi.x, .int .i64 X.hi.y, .int .i64 X.hi.z] 78)) = W3 at *
   have s0 := hB3.cell 0
   have s1 := hB3.cell 1
   have s2 := hB3.cell 2
   have s3 := hB3.cell 3
   have s4 := hB3.cell 4
   have s5 := hB3.cell 5
   have sl := hB3.lt
   simp only [ga1, ga2, ga3] at s0 s1 s2 s3 s4 s5
   have hR3 := hRW.via hb3
   have hX3 : Exc [] w1 W3 := Exc.via hb3 hX
   have hws := hbw.size
   clear hbw2 hbw3 how2
   go_wp2_with (at_builtin; refine wpList_push rfl (.tmp 44) (.tmp 46) _ rfl elemBx (hR3.alloc _) (hX3.alloc _) (by simp) hws rfl W3.heap.size 1 1 [.int .i64 X.lo.x, .int .i64 X.lo.y, .int .i64 X.lo.z, .int .i64 X.hi.x, .int .i64 X.hi.y, .int .i64 X.hi.z] rfl rfl ?_ (by simp [Value.oneCell']) (by unfold maxLen; omega) (by omega) ?_; (· intro j u hu; exact by have := (Cells.newRow W3 #[.int .i64 X.lo.x, .int .i64 X.lo.y, .int .i64 X.lo.z, .int .i64 X.hi.x, .int .i64 X.hi.y, .int .i64 X.hi.z] 78 (0, 0)).get (k := j) (v := u) hu; rwa [Nat.zero_add] at this); intro v' w' hR' hX' hO')
   obtain ⟨A5, c5, rfl, _, _, _⟩ := own_form hR'.own (by unfold maxLen; omega)
   go_roundw
   case rel => exact ⟨q + 1, A5, c5, by omega, by go_num, rfl, by rw [HSq.out]; exact hR', hX'⟩
   case measure => simp [intOf]; omega
  ·have he : q = L := by omega
   subst he
   have hki : ¬ (q : Int) + 1 < (q : Int) + 1 := by omega
   go_wp2
   go_ret2
   refine ⟨A3, c3, rfl, ?_, ba_via hbx hbw⟩
   have := hRW.own
   rwa [<- HLL.out] at this
set_option maxRecDepth 20000 in
set_option maxHeartbeats 4000000 in
theorem laidMark_any (x : Dt) (i : Nat) (B : Nat) (w : World) (hB : B <= w.heap.size) (hA : DtAt w B x) (h : S.laid (bars x.bs) x.rs = true) {k j k0 : Nat} {r : BarR} (hL : Lies x.bs x.rs i k j k0 r) :
 Calls Tryz.prog 225 #[.slice x.bA x.bn x.bc, .slice x.rA x.rn x.rc, .int .i64 i] w fun e w' => e = .returned (.tuple #[.string (x.rs[k]'hL.st.lt).mark, .int .i64 0]) /\ Below w.heap.size w w' := by
 have HLV := lh (fun (W : World) (hw : Below w.heap.size w W) => h ▸ laid_any x.bs x.rs x.bA x.bn x.bc x.rA x.rn x.rc B W (size_via hB hw) (hA.at_ hB hw).bars (hA.at_ hB hw).runs)
 have hRc := hA.runs.cells
 have hrl := hA.runs.len
 have hrm := hA.runs.max
 have hlt := hL.st.lt
 have hsum := hL.st.sum
 have hinr := hL.st.inr
 have hlim := hL.lim
 have hcnt := hL.cnt
 have hc : ∀ q (hq : q < x.rs.length), 0 <= x.rs[q].count := fun q hq => (hcnt q hq).1
 have HSM := lh (fun (q : Nat) (hq : q <= k) => sumTo_mono (rs := x.rs) hc hq (by omega))
 have HSS := lh (fun (q : Nat) (hq : q < x.rs.length) => sumTo_succ x.rs hq)
 have HSZ := lh (fun (q : Nat) (hq : q <= x.rs.length) => sumTo_mono (rs := x.rs) hc (Nat.zero_le q) hq)
 have HCN := lh hcnt
 have HSUM := lh hsum
 have HS0 := lh (sumTo_zero x.rs)
 clear hA h hcnt hc hsum
 generalize x.rA = rA at *
 go_enter Tryz.func225, Tryz.ntmps225
 have hi0 : ¬ ((i : Int) < 0) := by omega
 go_wp2_with (first
  | (go_at_call 112; (with_reducible refine (HLV.out _ belr).mono ?_); rintro e w1 ⟨rfl, hbw1⟩))
 go_loopw [2, 18] (fun v s wr => ∃ q : Nat, q <= k /\ s = .int .i64 q /\ v = .int .i64 ((i : Int) - S.sumTo x.rs q) /\ Below w.heap.size w wr) (fun _ s _ => k + 1 - (intOf s).toNat)
 case atStart => exact ⟨0, Nat.zero_le _, rfl, by rw [HS0.out]; simp, hbw1⟩
 case round =>
  obtain ⟨q, hq, rfl, rfl, hbr⟩ := hrel
  have hqx : q < x.rs.length := by omega
  have hqi : (q : Int) < x.rn := by omega
  have hRr := hRc.below (hbr.mono hB)
  obtain ⟨bR, oR, hRe, hbR, hxx⟩ := hRr.at_ (by rw [flat_len rnC 10 rnC_len]; omega)
  clear hxx
  subst hRe
  have c0 := hRr.row0 rnC_len hqx rfl
  have d1 := hRr.rowj rnC_len hqx 1 rfl
  have d2 := hRr.rowj rnC_len hqx 2 rfl
  have d3 := hRr.rowj rnC_len hqx 3 rfl
  have d4 := hRr.rowj rnC_len hqx 4 rfl
  have d5 := hRr.rowj rnC_len hqx 5 rfl
  have d6 := hRr.rowj rnC_len hqx 6 rfl
  have d7 := hRr.rowj rnC_len hqx 7 rfl
  have d8 := hRr.rowj rnC_len hqx 8 rfl
  have d9 := hRr.rowj rnC_len hqx 9 rfl
  have hbl : bR < wr.heap.size := by have := hbr.size; omega
  have hz := HSZ.out q (by omega)
  have hsq := HSM.out q hq
  rw [HS0.out] at hz
  have HSQ := lh (HSS.out q hqx)
  have hcq := HCN.out q hqx
  by_cases hqk : q = k
  ·subst hqk
   have hyes : ((i : Int) - S.sumTo x.rs q) < x.rs[q].count := by have := HSUM.out; omega
   clear hRr
   generalize S.sumTo x.rs q = sm at *
   generalize hrr : x.rs[q] = rr at *
   have HRR := lh hrr
   clear hrr
   go_wp2
   go_ret2
   exact ⟨by rw [HRR.out]; rfl, bel⟩
  ·have hno : ¬ (((i : Int) - S.sumTo x.rs q) < x.rs[q].count) := by
    have h1 := HSM.out (q + 1) (by omega)
    have h2 := HSQ.out
    have h3 := HSUM.out
    omega
   have hqk2 : q < k := by omega
   have HN1 := lh (show S.sumTo x.rs (q + 1) = S.sumTo x.rs q + x.rs[q].count from HSQ.out)
   have hb1 := HSM.out (q + 1) (by omega)
   have hi1 := HSUM.out
   have e1 : IntKind.i64.wrap ((i : Int) - S.sumTo x.rs q - x.rs[q].count) = (i : Int) - S.sumTo x.rs q - x.rs[q].count := IntWalk.i64_in _ (by omega)
   clear hRr hqk hb1 hi1
   generalize S.sumTo x.rs q = sm at *
   generalize x.rs[q] = rr at *
   go_wp2
   go_roundw
   case rel => exact ⟨q + 1, by omega, by go_num, by rw [HN1.out]; congr 1; omega, bel⟩
   case measure => simp [intOf]; omega
structure Rod where
 bar : BarR
 legs : List Bx
 A : Option Addr
 c : Nat
 main : Int
abbrev rodC (r : Rod) : List Value := [.string r.bar.b.mark, .int .i64 r.bar.b.size, .int .i64 r.bar.b.count, .int .i64 r.bar.b.code, .slice r.bar.A r.bar.n r.bar.c, .slice r.A r.legs.length r.c, .int .i64 r.main]
theorem rodC_len (r : Rod) : (rodC r).length = 7 := rfl
theorem elemRod : Elem Tryz.prog 117 202 (.agg #[.string ⟨#[]⟩, .int .i64 0, .int .i64 0, .int .i64 0, .slice none 0 0, .slice none 0 0, .int .i64 0]) 7 96 := ⟨Tryz.underlying117, by kernel_rfl, rfl, by decide⟩
structure RodOk (x : Dt) (i : Nat) (r : Rod) : Prop where
 ex : ∃ k j k0, ∃ hL : Lies x.bs x.rs i k j k0 r.bar, r.legs = S.legsL (S.laidPath r.bar.b (x.rs[k]'hL.st.lt) j)
 main : r.main = idxf r.legs S.isMainB
def LegsAt (w : World) (base : Nat) (v : Value) (r : Rod) : Prop :=
 ∃ (g : Nat) (cur : Array Value) (t : TypeId) (fr : Nat × Nat), r.A = some ⟨g, 0, none⟩ /\ base <= g /\ v.ownBlock ≠ some g /\ w.heap[g]? = some (.cells cur t fr) /\ ∀ (j : Nat) (u : Value), (r.legs.flatMap boxC)[j]? = some u -> cur[j]? = some u
structure RodsAt (w : World) (base : Nat) (v : Value) (rs : List Rod) : Prop where
 own : w.ownsRow base 202 7 v rs.length (rs.flatMap rodC)
 each : ∀ r, r ∈ rs -> LegsAt w base v r
def GivesRods (x : Dt) (n : Nat) (w : World) (e : Ending) (w' : World) : Prop :=
 ∃ (A : Option Addr) (c : Nat) (rs : List Rod), e = .returned (.tuple #[.slice A rs.length c, .int .i64 0]) /\ rs.length = n /\ (∀ (i : Nat) (hi : i < rs.length), RodOk x i rs[i]) /\ RodsAt w' w.heap.size (.slice A rs.length c) rs /\ Below w.heap.size w w'
theorem LegsAt.kept {w w2 : World} {base : Nat} {v : Value} {r : Rod} (h : LegsAt w base v r) (hb : Below w.heap.size w w2) : LegsAt w2 base v r := by
 obtain ⟨g, cur, t, fr, h1, h2, h3, h4, h5⟩ := h
 exact ⟨g, cur, t, fr, h1, h2, h3, (hb.block g (Array.getElem?_eq_some_iff.1 h4).1).trans h4, h5⟩
theorem RodsAt.kept {w w2 : World} {base : Nat} {v : Value} {rs : List Rod} (h : RodsAt w base v rs) (hb : Below w.heap.size w w2) : RodsAt w2 base v rs :=
 ⟨own_kept h.own (fun k hk => hb.block k (h.own.lt k hk).2), fun r hr => (h.each r hr).kept hb⟩
theorem RodsAt.push {w w2 : World} {base : Nat} {v v2 : Value} {rs : List Rod} {r : Rod} (h : RodsAt w base v rs) (hr : LegsAt w base v r)
 (hown : w2.ownsRow base 202 7 v2 (rs.length + 1) (rs.flatMap rodC ++ rodC r)) (hk : ∀ k, k < w.heap.size -> v.ownBlock ≠ some k -> w2.heap[k]? = w.heap[k]?) (hv : ∀ k, v2.ownBlock = some k -> some k = v.ownBlock ∨ w.heap.size <= k) : RodsAt w2 base v2 (rs ++ [r]) := by
 refine ⟨by simpa using hown, fun q hq => ?_⟩
 have hq2 : LegsAt w base v q := by
  rcases List.mem_append.1 hq with hq | hq
  ·exact h.each q hq
  ·rw [List.mem_singleton] at hq
   subst hq
   exact hr
 obtain ⟨g, cur, t, fr, h1, h2, h3, h4, h5⟩ := hq2
 have hlt := (Array.getElem?_eq_some_iff.1 h4).1
 refine ⟨g, cur, t, fr, h1, h2, fun he => ?_, (hk g hlt h3).trans h4, h5⟩
 rcases hv g he with h6 | h6
 ·exact h3 h6.symm
 ·omega
theorem rmark_any (m : ByteArray) (r : BarR) (g : Nat) (w : World) (hc : w.cell? ⟨g, 0, none⟩ = some (.string m)) (hg : g < w.heap.size) :
 Calls Tryz.prog 228 #[barV r.b r.A r.n r.c, .pointer (some ⟨g, 0, none⟩)] w fun e w' => e = .returned (.bool (S.isMark m r.b)) /\ Below w.heap.size w w' := by
 unfold barV
 go_enter Tryz.func228, Tryz.ntmps228
 go_wp2
 go_ret
 exact ⟨rfl, bel⟩
theorem rmain2_any (b : Bx) (w : World) : Calls Tryz.prog 230 #[boxV b] w fun e w' => e = .returned (.bool (S.isMainB b)) /\ Below w.heap.size w w' := by
 have H := lh (show S.isMainB b = (decide (b.lo.x < b.hi.x) && decide (b.lo.y = b.hi.y) && decide (b.lo.z = b.hi.z)) from rfl)
 unfold boxV
 by_cases h1 : b.lo.x < b.hi.x
 ·cases h2 : (b.lo.y == b.hi.y)
  ·have h2' : ¬ (b.lo.y = b.hi.y) := by simpa using h2
   have HE := lh (show S.isMainB b = false by rw [H.out]; simp [h2'])
   clear h2'
   go_enter Tryz.func230, Tryz.ntmps230
   go_wp2
   go_ret
   exact ⟨ret_b HE.out.symm, bel⟩
  ·have h2' : b.lo.y = b.hi.y := by simpa using h2
   cases h3 : (b.lo.z == b.hi.z)
   ·have h3' : ¬ (b.lo.z = b.hi.z) := by simpa using h3
    have HE := lh (show S.isMainB b = false by rw [H.out]; simp [h3'])
    clear h2' h3'
    go_enter Tryz.func230, Tryz.ntmps230
    go_wp2
    go_ret
    exact ⟨ret_b HE.out.symm, bel⟩
   ·have h3' : b.lo.z = b.hi.z := by simpa using h3
    have HE := lh (show S.isMainB b = true by rw [H.out]; simp [h1, h2', h3'])
    clear h2' h3'
    go_enter Tryz.func230, Tryz.ntmps230
    go_wp2
    go_ret
    exact ⟨ret_b HE.out.symm, bel⟩
 ·have HE := lh (show S.isMainB b = false by rw [H.out]; simp [h1])
  go_enter Tryz.func230, Tryz.ntmps230
  go_wp2
  go_ret
  exact ⟨ret_b HE.out.symm, bel⟩
def S.steelArea (d : Int) : Int := (7854 * d * d + 50) / 100
def Tells (w : World) (F : Nat) (fst cap : Array Value) (v : Int) : Prop :=
 ∀ (w' : World), Below w.heap.size w w' -> Calls Tryz.prog F (fst ++ cap) w' fun e w'' => e = .returned (.int .i64 v) /\ Below w'.heap.size w' w''
theorem steel_sized (F : Nat) (fst cap : Array Value) (d v : Int) (w : World) (h : S.size d = true) (hF : ∀ args w, Sem.run Tryz.prog (callFunc F args) w = .ok (.enter F args) w) (hf : Tells w F fst cap v) :
 Calls Tryz.prog 232 #[.int .i64 d, .func (.func F) fst cap] w fun e w' => e = .returned (.tuple #[.int .i64 v, .int .i64 0]) /\ Below w.heap.size w w' := by
 go_enter Tryz.func232, Tryz.ntmps232
 go_wp2_with (first
  | (go_at_call 247; (with_reducible refine (ssize_any d _).mono ?_); rintro e w1 ⟨rfl, hbw1⟩; obtain ⟨hcw1, hfw1⟩ := bcell hbw1)
  | (refine (hf _ hbw1).mono ?_; rintro e w2 ⟨rfl, hbw2⟩))
 go_ret2
 exact ⟨rfl, bel⟩
theorem sarea_any (d : Int) (w : World) (h : S.size d = true) :
 Calls Tryz.prog 234 #[.int .i64 d] w fun e w' => e = .returned (.int .i64 (S.steelArea d)) /\ w = w' := by
 rcases size_cases h with rfl | rfl | rfl | rfl | rfl | rfl | rfl | rfl | rfl
 all_goals (
  go_enter Tryz.func234, Tryz.ntmps234
  go_wp2
  go_ret
  exact ⟨rfl, rfl⟩)
theorem sarea1_any (d : Int) (g : Nat) (w : World) (hc : w.cell? ⟨g, 0, none⟩ = some (.int .i64 d)) (h : S.size d = true) :
 Calls Tryz.prog 233 #[.pointer (some ⟨g, 0, none⟩)] w fun e w' => e = .returned (.int .i64 (S.steelArea d)) /\ Below w.heap.size w w' := by
 go_enter Tryz.func233, Tryz.ntmps233
 go_wp2_with (go_at_call 234; (with_reducible refine (sarea_any d _ h).mono ?_); rintro e w' ⟨rfl, rfl⟩)
 go_ret
 exact ⟨rfl, Below.refl _ _⟩
theorem steelArea_any (d : Int) (w : World) (h : S.size d = true) :
 Calls Tryz.prog 181 #[.int .i64 d] w fun e w' => e = .returned (.tuple #[.int .i64 (S.steelArea d), .int .i64 0]) /\ Below w.heap.size w w' := by
 have hf : Tells (w.alloc (.cells #[.int .i64 d] 3)) 233 #[] #[.pointer (some ⟨w.heap.size, 0, none⟩)] (S.steelArea d) := fun w' hb =>
  sarea1_any d w.heap.size w' ((hb.cell (p := ⟨w.heap.size, 0, none⟩) (by simp)).trans (by simp)) h
 go_enter Tryz.func181, Tryz.ntmps181
 go_wp2_with (go_at_call 232; (with_reducible refine (steel_sized _ _ _ d (S.steelArea d) _ h Tryz.call233 hf).mono ?_); rintro e w1 ⟨rfl, hbw1⟩; obtain ⟨hcw1, hfw1⟩ := bcell hbw1; have hzw1_0 : w.heap.size < w1.heap.size := lt_via hbw1 sz)
 go_ret2
 exact ⟨rfl, bel⟩
abbrev rodV (r : Rod) : Value := .agg #[.string r.bar.b.mark, .int .i64 r.bar.b.size, .int .i64 r.bar.b.count, .int .i64 r.bar.b.code, .slice r.bar.A r.bar.n r.bar.c, .slice r.A r.legs.length r.c, .int .i64 r.main]
theorem rleg_any (r : Rod) (k : Nat) (b : Bx) (B : Nat) (w : World) (hB : B <= w.heap.size) (hk : r.legs[k]? = some b) (hm : r.main = k) (hs : Cells w B r.A (r.legs.flatMap boxC)) :
 Calls Tryz.prog 130 #[rodV r] w fun e w' => e = .returned (boxV b) /\ Below w.heap.size w w' := by
 unfold rodV boxV
 rw [hm]
 clear hm
 obtain ⟨hkx, hkb⟩ := List.getElem?_eq_some_iff.1 hk
 obtain ⟨g, o, hA, hg, hx⟩ := hs.at_ (by rw [flat_len boxC 6 boxC_len]; omega)
 clear hx
 rw [hA] at hs ⊢
 obtain ⟨c0, c1, c2, c3, c4, c5⟩ := hs.boxes hk
 have hkl : (k : Int) < r.legs.length := by omega
 clear hs hk hkb hkx hA
 have hgl : g < w.heap.size := by omega
 have hgl1 : g < w.heap.size + 1 := by omega
 go_enter Tryz.func130, Tryz.ntmps130
 go_wp2
 exact bodyPost_ret (v := .agg #[.int .i64 b.lo.x, .int .i64 b.lo.y, .int .i64 b.lo.z, .int .i64 b.hi.x, .int .i64 b.hi.y, .int .i64 b.hi.z]) (by simp [results, Tryz.results130, go_sem, *]) rfl ⟨rfl, bel⟩
def cmpI (a b : Int) : Int := if a < b then -1 else if b < a then 1 else 0
theorem cmpI_neg (a b : Int) : decide (cmpI a b < 0) = decide (a < b) := by
 unfold cmpI
 split
 ·rename_i h; simp [h]
 ·rename_i h
  split <;> simp [h]
theorem isNaN_any (a : Int) (w : World) :
 Calls Tryz.prog 192 #[.int .i64 a] w fun e w' => e = .returned (.bool false) /\ w = w' := by
 go_enter Tryz.func192, Tryz.ntmps192
 go_wp2
 go_ret
 exact ⟨rfl, rfl⟩
theorem cmp_any (a b : Int) (w : World) :
 Calls Tryz.prog 180 #[.int .i64 a, .int .i64 b] w fun e w' => e = .returned (.int .i64 (cmpI a b)) /\ Below w.heap.size w w' := by
 have H := lh (show cmpI a b = (if a < b then -1 else if b < a then 1 else 0) from rfl)
 by_cases h1 : a < b
 ·go_enter Tryz.func180, Tryz.ntmps180
  go_wp2_with (first | (go_at_call 192; (with_reducible refine (isNaN_any _ _).mono ?_); rintro e w' ⟨rfl, rfl⟩))
  go_ret
  exact ⟨ret_i (by rw [H.out, if_pos (by omega)]), Below.refl _ _⟩
 ·by_cases h2 : b < a
  ·go_enter Tryz.func180, Tryz.ntmps180
   go_wp2_with (first | (go_at_call 192; (with_reducible refine (isNaN_any _ _).mono ?_); rintro e w' ⟨rfl, rfl⟩))
   go_ret
   exact ⟨ret_i (by rw [H.out, if_neg (by omega), if_pos (by omega)]), Below.refl _ _⟩
  ·go_enter Tryz.func180, Tryz.ntmps180
   go_wp2_with (first | (go_at_call 192; (with_reducible refine (isNaN_any _ _).mono ?_); rintro e w' ⟨rfl, rfl⟩))
   go_ret
   exact ⟨ret_i (by rw [H.out, if_neg (by omega), if_neg (by omega)]), Below.refl _ _⟩
end Go.Proofs.YtmfpbafpnoomeaaGreat
