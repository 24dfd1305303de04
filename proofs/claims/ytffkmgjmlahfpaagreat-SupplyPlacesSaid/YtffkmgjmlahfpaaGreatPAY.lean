/- Contract of the reference for layer 26: Bars. PRINTED by tools/gen_r26d.py. -/
import Derived.Test.YtffkmgjmlahfpaaGreatPAX
set_option linter.unusedVariables false
set_option linter.unusedSimpArgs false
namespace Go.Proofs.YtffkmgjmlahfpaaGreat
open Go.RowKit
def S.gI (hs : Nat → List Int → Bool) (C : List (List Int)) (i : Nat) : List Int := (C.filter (hs i)).map fun _ => (i : Int)
def S.gB (ov : Nat → Bool) (hs : Nat → List Int → Bool) (C : List (List Int)) (k : Nat) : List Int := (List.range k).flatMap fun i => if ov i then S.gI hs C i else []
theorem gI_next (hs : Nat → List Int → Bool) {C : List (List Int)} (i : Nat) {k : Nat} (h : k < C.length) : S.gI hs (C.take (k + 1)) i = S.gI hs (C.take k) i ++ (if hs i C[k] then [(i : Int)] else []) := by
  have e : C.take (k + 1) = C.take k ++ [C[k]] := by rw [List.take_add_one, List.getElem?_eq_getElem h]; rfl
  unfold S.gI
  rw [e, List.filter_append, List.map_append, List.filter_cons]
  split <;> rfl
theorem gI_len (hs : Nat → List Int → Bool) (C : List (List Int)) (i : Nat) : (S.gI hs C i).length ≤ C.length := by
  unfold S.gI
  rw [List.length_map]
  exact List.length_filter_le _ _
theorem gB_next (ov : Nat → Bool) (hs : Nat → List Int → Bool) (C : List (List Int)) (k : Nat) : S.gB ov hs C (k + 1) = S.gB ov hs C k ++ (if ov k then S.gI hs C k else []) := by
  unfold S.gB
  rw [List.range_succ, List.flatMap_append]
  simp
theorem gB_len (ov : Nat → Bool) (hs : Nat → List Int → Bool) (C : List (List Int)) (k : Nat) : (S.gB ov hs C k).length ≤ k * C.length := by
  induction k with
  | zero => simp [S.gB]
  | succ k ih =>
    rw [gB_next, List.length_append, Nat.add_mul, Nat.one_mul]
    have h1 := gI_len hs C k
    split
    · omega
    · simp; omega
theorem any_next (l : List Int) (p : Int → Bool) {j : Nat} (h : j < l.length) : (l.take (j + 1)).any p = ((l.take j).any p || p l[j]) := by
  rw [List.take_succ_eq_append_getElem h, List.any_append]
  simp
set_option maxRecDepth 20000 in
set_option maxHeartbeats 16000000 in
theorem rbars26_core (x : Dt) (C : List (List Int)) (k : Nat) (p : Int) (n : Nat) (M : Nat → Bx) (T : Nat → Bool) (ov : Nat → Bool) (hs : Nat → List Int → Bool) (sp : List Int → Int × Int × Bool) (su : List Int → Bool) (ar : List Int → Int) (w : World) (hc : ChSays x C k sp su ar w) (hn : n ≤ 2000) (hll : ∀ l, l ∈ C → l.length ≤ 2001)
    (hov : ∀ i, ov i = (T i && (decide ((M i).lo.x ≤ p) && decide (p ≤ (M i).hi.x)))) (hhs : ∀ (i : Nat) (l : List Int), hs i l = (l.any (fun j => j == (i : Int)) && S.refIn sp su p l))
    (hCN : ∀ W, Below w.heap.size w W → Calls Tryz.prog 42 #[dtV x] W fun e w' => e = .returned (.int .i64 n) ∧ Below W.heap.size W w')
    (hM : ∀ (i : Nat), i < n → ∀ W, Below w.heap.size w W → Calls Tryz.prog 43 #[dtV x, .int .i64 i] W fun e w' => e = .returned (.tuple #[boxV (M i), .bool (T i)]) ∧ Below W.heap.size W w')
    (hCH : ∀ W, Below w.heap.size w W → Calls Tryz.prog 23 #[dtV x] W (GivesChs C W)) :
    Calls Tryz.prog 38 #[dtV x, .int .i64 k, .int .i64 p] w (GivesOne 3 1 (S.gB ov hs C n).length (i64s (S.gB ov hs C n)) w) := by
  have HCH := Lib.hid hCH
  have HCN := Lib.hid hCN
  have HM := Lib.hid hM
  have HAN := Lib.hid hc.anch
  have HSU := Lib.hid hc.sups
  have HOV := Lib.hid hov
  have HHS := Lib.hid hhs
  have HLL := Lib.hid hll
  have hcl := hc.len
  clear hCH hc hCN hM hov hhs hll
  unfold dtV at HCH HAN HSU HCN HM
  unfold boxV at HM
  unfold dtV
  have hDB := Blk.new w 34 #[.string x.m.name, .slice x.mA x.mn x.mc, .slice x.hA x.hn x.hc, .int .i64 x.m.cover, .int .i64 x.m.aggr, .int .i64 x.m.poker, .slice x.bA x.bn x.bc, .slice x.rA x.rn x.rc, .slice x.jA x.jn x.jc, .slice x.dA x.dn x.dc, .int .i64 x.rule.num, .int .i64 x.rule.den, .int .i64 x.rule.pnum, .int .i64 x.rule.pden, .int .i64 x.rule.bnum, .int .i64 x.rule.bden, .int .i64 x.rule.lnum, .int .i64 x.rule.lden, .int .i64 x.rule.least]
  have hW1 : Below w.heap.size w (w.alloc (.cells #[.string x.m.name, .slice x.mA x.mn x.mc, .slice x.hA x.hn x.hc, .int .i64 x.m.cover, .int .i64 x.m.aggr, .int .i64 x.m.poker, .slice x.bA x.bn x.bc, .slice x.rA x.rn x.rc, .slice x.jA x.jn x.jc, .slice x.dA x.dn x.dc, .int .i64 x.rule.num, .int .i64 x.rule.den, .int .i64 x.rule.pnum, .int .i64 x.rule.pden, .int .i64 x.rule.bnum, .int .i64 x.rule.bden, .int .i64 x.rule.lnum, .int .i64 x.rule.lden, .int .i64 x.rule.least] 34)) := ba_alloc (Below.refl _ _) _
  go_enter Tryz.func38, Tryz.ntmps38
  go_upto_region 1 with fail
  generalize (w.alloc (.cells #[.string x.m.name, .slice x.mA x.mn x.mc, .slice x.hA x.hn x.hc, .int .i64 x.m.cover, .int .i64 x.m.aggr, .int .i64 x.m.poker, .slice x.bA x.bn x.bc, .slice x.rA x.rn x.rc, .slice x.jA x.jn x.jc, .slice x.dA x.dn x.dc, .int .i64 x.rule.num, .int .i64 x.rule.den, .int .i64 x.rule.pnum, .int .i64 x.rule.pden, .int .i64 x.rule.bnum, .int .i64 x.rule.bden, .int .i64 x.rule.lnum, .int .i64 x.rule.lden, .int .i64 x.rule.least] 34)) = W1 at *
  have HDB := Lib.hid hDB
  clear hDB
  go_upto_region 2 with (first
    | ((with_reducible refine at_load 34 3 ?_); refine wpList_load_mid rfl 34 (.tmp 3) rfl _ _ rfl _ _ (HDB.out.via belr).range Tryz.underlying34 rfl (by kernel_rfl) ?_)
    | (go_at_call 23; (with_reducible refine (HCH.out _ belr).mono ?_); rintro e w1 ⟨A1, c1, rs, rfl, hrs, hrc, hcc, hce, hbw1⟩))
  have hb11 : Below W1.heap.size W1 w1 := belr
  have hw1 : Below w.heap.size w w1 := ba_via hb11 hW1
  have hrl : rs.length = C.length := by rw [← hrs, List.length_map]
  have HRL := Lib.hid (fun (q : Nat) (hq : q < rs.length) (hqC : q < C.length) => show rs[q].l = C[q] from by
    have h1 : (rs.map (·.l))[q]? = C[q]? := by rw [hrs]
    rw [List.getElem?_map, List.getElem?_eq_getElem hq, List.getElem?_eq_getElem hqC] at h1
    exact Option.some.inj h1)
  have HCC := Lib.hid hcc
  have HCE := Lib.hid hce
  obtain ⟨nc, hnc⟩ : ∃ nc, nc = rs.length := ⟨_, rfl⟩
  have HNR := Lib.hid hnc
  have HNC := Lib.hid (hnc.trans hrl)
  rw [← hnc]
  have hncl : nc ≤ 2000 := by rw [hnc, hrl]; exact hcl
  have hw1s := hw1.size
  clear hrs hrc hcc hce hbw1 hnc hrl hcl
  go_upto_region 4 with fail
  go_loopw [8, 9] (fun v i wr => ∃ q : Nat, q ≤ n ∧ i = .int .i64 q ∧ wr.ownsRow w1.heap.size 3 1 v (S.gB ov hs C q).length (i64s (S.gB ov hs C q)) ∧ Below w1.heap.size w1 wr) (fun _ i _ => n - (intOf i).toNat)
  case atStart => exact ⟨0, Nat.zero_le _, rfl, World.ownsRow_nil _ _ _ _, Below.refl _ _⟩
  case round =>
    generalize wr = wq at *
    obtain ⟨q, hq, rfl, hO, hbq⟩ := hrel
    have hbwq : Below w.heap.size w wq := ba_via hbq hw1
    have HO := Lib.hid hO
    have HDQ := Lib.hid (HDB.out.via (ba_via hbq hb11))
    have HCNq := Lib.hid (fun (W : World) (hw : Below wq.heap.size wq W) => HCN.out W (ba_via hw hbwq))
    have hbl8 := gB_len ov hs C q
    rw [← HNC.out] at hbl8
    have hbl9 : (S.gB ov hs C q).length ≤ 4000000 := by
      have h1 : q * nc ≤ 2000 * 2000 := Nat.mul_le_mul (by omega) hncl
      omega
    clear hO hbl8
    by_cases hlt : q < n
    · have hqi : (q : Int) < n := by omega
      have HMq := Lib.hid (fun (W : World) (hw : Below wq.heap.size wq W) => HM.out q hlt W (ba_via hw hbwq))
      have HBN := Lib.hid (gB_next ov hs C q)
      have HOVq := Lib.hid (HOV.out q)
      have HHSq := Lib.hid (HHS.out q)
      generalize M q = g at *
      generalize T q = t at *
      generalize ov q = tv at *
      go_upto_region 7 with (first
        | ((with_reducible refine at_load 34 3 ?_); refine wpList_load_mid rfl 34 (.tmp 3) rfl _ _ rfl _ _ (HDQ.out.via belr).range Tryz.underlying34 rfl (by kernel_rfl) ?_)
        | (go_at_call 42; (with_reducible refine (HCNq.out _ belr).mono ?_); rintro e w2 ⟨rfl, hbw2⟩)
        | (go_at_call 43; (with_reducible refine (HMq.out _ belr).mono ?_); rintro e w3 ⟨rfl, hbw3⟩))
      have hb3 : Below wq.heap.size wq w3 := belr
      have hGB := Blk.new w3 89 #[.int .i64 g.lo.x, .int .i64 g.lo.y, .int .i64 g.lo.z, .int .i64 g.hi.x, .int .i64 g.hi.y, .int .i64 g.hi.z]
      have hb4 : Below wq.heap.size wq (w3.alloc (.cells #[.int .i64 g.lo.x, .int .i64 g.lo.y, .int .i64 g.lo.z, .int .i64 g.hi.x, .int .i64 g.hi.y, .int .i64 g.hi.z] 89)) := ba_alloc hb3 _
      generalize (w3.alloc (.cells #[.int .i64 g.lo.x, .int .i64 g.lo.y, .int .i64 g.lo.z, .int .i64 g.hi.x, .int .i64 g.hi.y, .int .i64 g.hi.z] 89)) = W4 at *
      generalize w3.heap.size = g3 at *
      clear hb3 hbw2 hbw3
      have z0 := hGB.cell 0
      have z3 := hGB.cell 3
      have zl := hGB.lt
      simp only [List.getElem?_toArray, List.getElem?_cons_zero, List.getElem?_cons_succ] at z0 z3
      clear hGB
      have hqs := hbq.size
      have HO4 := Lib.hid (own_kept HO.out (fun k hk => hb4.block k (HO.out.lt k hk).2))
      have hb14 : Below w1.heap.size w1 W4 := ba_via hb4 hbq
      generalize g.lo.x = glo at *
      generalize g.hi.x = ghi at *
      have hno : tv = false → S.gB ov hs C (q + 1) = S.gB ov hs C q := fun h => by rw [HBN.out, h]; simp
      have HNO := Lib.hid hno
      clear hno
      cases t
      · have HE := Lib.hid (HNO.out (by rw [HOVq.out]; rfl))
        go_wp2
        go_roundw
        case rel => exact ⟨q + 1, by omega, by go_num, by rw [HE.out]; exact HO4.out, hb14⟩
        case measure => simp [intOf]; omega
      · by_cases h1 : glo ≤ p
        · by_cases h2 : p ≤ ghi
          · have HTV := Lib.hid (show S.gB ov hs C (q + 1) = S.gB ov hs C q ++ S.gI hs C q from by rw [HBN.out, HOVq.out, decide_eq_true h1, decide_eq_true h2]; rfl)
            have h1' : ¬ (p < glo) := by omega
            have h2' : ¬ (ghi < p) := by omega
            clear h1 h2
            go_upto_region 9 with fail
            clear z0 z3 zl h1' h2' HMq HCNq HBN HNO HOVq
            have HD1 := Lib.hid (HDB.out.via hb11)
            go_loopw [8, 12] (fun v i wr => ∃ m : Nat, m ≤ nc ∧ i = .int .i64 m ∧ wr.ownsRow w1.heap.size 3 1 v (S.gB ov hs C q ++ S.gI hs (C.take m) q).length (i64s (S.gB ov hs C q ++ S.gI hs (C.take m) q)) ∧ Below w1.heap.size w1 wr) (fun _ i _ => nc - (intOf i).toNat)
            case atStart => exact ⟨0, Nat.zero_le _, rfl, by simpa [S.gI] using HO4.out, hb14⟩
            case round =>
              generalize wr = wm at *
              obtain ⟨m, hm, rfl, hO5, hb1m⟩ := hrel
              have HO5 := Lib.hid hO5
              clear hO5
              have hms := hb1m.size
              have hbwm : Below w.heap.size w wm := ba_via hb1m hw1
              have hgl := gI_len hs (C.take m) q
              have hgl2 : (S.gI hs (C.take m) q).length ≤ 2000 := by rw [List.length_take] at hgl; omega
              clear hgl
              by_cases hltm : m < nc
              · have hmx : m < rs.length := by rw [← HNR.out]; exact hltm
                have hmC : m < C.length := by rw [← HNC.out]; exact hltm
                have hmi : (m : Int) < nc := by omega
                have HGN := Lib.hid (gI_next hs q hmC)
                obtain ⟨bA, oA, hAe, hbA, hxx⟩ := (HCC.out.below hb1m).at_ (by rw [List.length_map]; omega)
                clear hxx
                have hc0 := (HCC.out.below hb1m)
                rw [hAe] at hc0
                have c0 := hc0.get (k := m) (v := chV rs[m]) (by rw [List.getElem?_map, List.getElem?_eq_getElem hmx]; rfl)
                have hrq := HRL.out m hmx hmC
                have HCQ := Lib.hid (((HCE.out rs[m] (List.getElem_mem hmx)).1.below hb1m).mono hb1m.size)
                unfold chV at c0
                rw [hrq] at c0 HCQ
                have hmem := List.getElem_mem hmC
                have hbAl : bA < wm.heap.size := by have := hb1m.size; omega
                have hl1 := HLL.out _ hmem
                have HA1 := Lib.hid (fun (W : World) (hw : Below wm.heap.size wm W) => HAN.out _ hmem rs[m].A rs[m].c W (ba_via hw hbwm) ((HCQ.out.below hw).mono hw.size))
                have HS1 := Lib.hid (fun (W : World) (hw : Below wm.heap.size wm W) => HSU.out _ hmem rs[m].A rs[m].c W (ba_via hw hbwm) ((HCQ.out.below hw).mono hw.size))
                have HIN := Lib.hid (show hs q C[m] = (C[m].any (fun j => j == (q : Int)) && ((sp C[m]).2.2 && su C[m] && decide ((sp C[m]).1 ≤ p) && decide (p < (sp C[m]).2.1))) from HHSq.out C[m])
                have HDR := Lib.hid (HD1.out.via hb1m)
                rw [hAe]
                clear hc0 hmem hrq hAe
                generalize hrA : rs[m].A = rA at *
                generalize rs[m].c = rc at *
                generalize hs q C[m] = tin at *
                generalize su C[m] = ts at *
                generalize (sp C[m]).2.2 = tok at *
                generalize (sp C[m]).1 = lo at *
                generalize (sp C[m]).2.1 = hi at *
                generalize C[m] = l at *
                clear hrA
                obtain ⟨lz, hlz⟩ : ∃ lz, lz = l.length := ⟨_, rfl⟩
                have HLZ := Lib.hid hlz
                rw [← hlz] at c0 HA1 HS1 hl1
                clear hlz
                go_upto_region 13 with fail
                go_loopw [13, 14] (fun t s wy => ∃ j : Nat, j ≤ lz ∧ s = .int .i64 j ∧ t = .bool ((l.take j).any (fun i => i == (q : Int))) ∧ Below wm.heap.size wm wy) (fun _ s _ => lz - (intOf s).toNat)
                case atStart => exact ⟨0, Nat.zero_le _, rfl, rfl, Below.refl _ _⟩
                case round =>
                  generalize wr = wy at *
                  obtain ⟨j, hj, rfl, rfl, hby⟩ := hrel
                  have hys := hby.size
                  have d0 := (hby.cell (p := ⟨bA, oA + m, none⟩) hbAl).trans c0
                  have hbAy : bA < wy.heap.size := by omega
                  by_cases hltj : j < lz
                  · have hjx : j < l.length := by rw [← HLZ.out]; exact hltj
                    have hji : (j : Int) < lz := by omega
                    have hcj := HCQ.out.below hby
                    obtain ⟨bR, oR, hRe, hbR, hxx⟩ := hcj.at_ (by simp; omega)
                    clear hxx
                    subst hRe
                    have cj := hcj.get (k := j) (v := .int .i64 l[j]) (by simp [hjx])
                    have hbRl : bR < wy.heap.size := by omega
                    have HT := Lib.hid (any_next l (fun i => i == (q : Int)) hjx)
                    clear hcj
                    generalize l[j] = ij at *
                    generalize (l.take j).any (fun i => i == (q : Int)) = t0 at *
                    cases t0
                    · cases hc1 : (ij == (q : Int))
                      · have HT2 := Lib.hid (show (l.take (j + 1)).any (fun i => i == (q : Int)) = false from HT.out.trans (by rw [hc1]; rfl))
                        go_wp2
                        go_roundw
                        case rel => exact ⟨j + 1, by omega, by go_num, by rw [HT2.out], hby⟩
                        case measure => simp [intOf]; omega
                      · have HT2 := Lib.hid (show (l.take (j + 1)).any (fun i => i == (q : Int)) = true from HT.out.trans (by rw [hc1]; rfl))
                        go_wp2
                        go_roundw
                        case rel => exact ⟨j + 1, by omega, by go_num, by rw [HT2.out], hby⟩
                        case measure => simp [intOf]; omega
                    · have HT2 := Lib.hid (show (l.take (j + 1)).any (fun i => i == (q : Int)) = true from HT.out.trans (Bool.true_or _))
                      go_wp2
                      go_roundw
                      case rel => exact ⟨j + 1, by omega, by go_num, by rw [HT2.out], hby⟩
                      case measure => simp [intOf]; omega
                  · have hjn : j = lz := by omega
                    have hji : ¬ ((j : Int) < lz) := by omega
                    rw [show l.take j = l from List.take_of_length_le (by rw [hjn, HLZ.out]; exact Nat.le_refl _)]
                    have HO6 := Lib.hid (own_kept HO5.out (fun k hk => hby.block k (HO5.out.lt k hk).2))
                    have HDY := Lib.hid (HDR.out.via hby)
                    have HAY := Lib.hid (fun (W : World) (hw : Below wy.heap.size wy W) => HA1.out W (ba_via hw hby))
                    have HSY := Lib.hid (fun (W : World) (hw : Below wy.heap.size wy W) => HS1.out W (ba_via hw hby))
                    generalize l.any (fun i => i == (q : Int)) = tm at *
                    have hb1y : Below w1.heap.size w1 wy := ba_via hby hb1m
                    have h1y := hb1y.size
                    clear HCQ HA1 HS1 HDR
                    go_upto_region 16 with fail
                    refine wp_region_mixF 3 [0, 4] [8] _ 45 #[.int .i64 0, .int .i64 0] (by kernel_rfl) (by kernel_rfl) (of_decide_eq_true (by kernel_rfl)) rfl rfl (fun _ _ => by kernel_rfl) (by intro c a d v w h; cases d <;> exact h) ?_
                    try simp only [wpSegsF, List.take_succ_cons, List.take_zero, List.drop_succ_cons, List.drop_zero, List.take_nil, List.drop_nil]
                    repeat (go_big_quiet_step (fail))
                    refine wpQuiet_nil ?_
                    intro wA hCwA hGwA
                    have hbA' : Below wy.heap.size wy wA := ba_via hGwA (ba_drew (Below.refl _ _))
                    clear hCwA hGwA
                    have hRGA := (HDY.out.via hbA').range
                    go_wp2_with ((refine wpList_load_mid rfl 34 (.tmp 3) rfl _ _ rfl _ _ hRGA Tryz.underlying34 rfl (by kernel_rfl) ?_))
                    refine segF_next (show Below _ _ _ from belr) ?_
                    clear hRGA
                    try simp only [wpSegsF, List.take_succ_cons, List.take_zero, List.drop_succ_cons, List.drop_zero, List.take_nil, List.drop_nil]
                    repeat (go_big_quiet_step (fail))
                    refine wpQuiet_nil ?_
                    intro wB hCwB hGwB
                    have hbB : Below wy.heap.size wy wB := ba_via hGwB hbA'
                    clear hCwB hGwB
                    go_wp2_with ((go_at_call 44; (with_reducible refine (HAY.out _ belr).mono ?_); rintro e w5 ⟨rfl, hbw5⟩))
                    refine segF_next (show Below _ _ _ from belr) ?_
                    try simp only [wpSegsF, endAt, List.take_succ_cons, List.take_zero, List.drop_succ_cons, List.drop_zero, List.take_nil, List.drop_nil]
                    repeat (go_big_quiet_step (fail))
                    refine wpQuiet_nil ?_
                    intro b1 wD hOwD hGwD hLb1 hKb1
                    simp only [endAt, List.drop_succ_cons, List.drop_zero, Nat.reduceAdd]
                    have hbD2 : Below wy.heap.size wy wD := ba_via hGwD belr
                    have hbl1 : b1 < wD.heap.size := hKb1.lt
                    have y0 := hKb1.cell 0
                    have y1 := hKb1.cell 1
                    have x0 := hKb1.frozen 0
                    have x1 := hKb1.frozen 1
                    simp only [List.getElem?_toArray, List.getElem?_cons_zero, List.getElem?_cons_succ] at y0 y1
                    clear hOwD hGwD
                    go_upto_region 17 with fail
                    obtain ⟨W2, eW2, hW2, hB2⟩ := span_set2 hbD2 hLb1 hKb1 (.int .i64 lo) (.int .i64 hi)
                    rw [eW2]
                    clear eW2 y0 y1 x0 x1 hKb1 hbl1 hbD2 hbB hbA' hbw5
                    clear wD w5 wB wA
                    have y0 := hB2.cell 0
                    have y1 := hB2.cell 1
                    have bl := hB2.lt
                    simp only [List.getElem?_toArray, List.getElem?_cons_zero, List.getElem?_cons_succ] at y0 y1
                    have c0' := (hW2.cell (p := ⟨bA, oA + m, none⟩) hbAy).trans d0
                    have hbAl2 : bA < W2.heap.size := by have := hW2.size; omega
                    have HD2 := Lib.hid (HDY.out.via hW2)
                    have HSE := Lib.hid (fun (W : World) (hw : Below W2.heap.size W2 W) => HSY.out W (ba_via hw hW2))
                    have hb12 : Below w1.heap.size w1 W2 := ba_via hW2 hb1y
                    have HO7 := Lib.hid (own_kept HO6.out (fun k hk => hW2.block k (HO6.out.lt k hk).2))
                    clear d0 hB2 c0
                    cases tm
                    · have HV := Lib.hid (show S.gI hs (C.take (m + 1)) q = S.gI hs (C.take m) q by rw [HGN.out, if_neg (by rw [HIN.out]; simp)]; simp)
                      refine wp_region_mix 12 [11] (by kernel_rfl) (by kernel_rfl) (of_decide_eq_true (by kernel_rfl)) ?_
                      try simp only [wpSegs, List.take_succ_cons, List.take_zero, List.drop_succ_cons, List.drop_zero, List.take_nil, List.drop_nil]
                      repeat (first | (refine quietLoad (by rfl) 34 (.tmp 3) rfl _ _ rfl _ _ (quietBy fun W hw => (HD2.out.via hw).range) Tryz.underlying34 rfl (by kernel_rfl) ?_; intro aQ hQ; simp only [go_sem, List.setIfInBounds_toArray, List.set_cons_succ, List.set_cons_zero] at hQ; subst hQ) | go_big_quiet_step (fail))
                      refine wpQuiet_nil ?_
                      show wpList _ _ _ _ _ _
                      go_wp2_with (fail)
                      refine seg_next (grow_to belr) ?_
                      try simp only [wpSegs, List.take_succ_cons, List.take_zero, List.drop_succ_cons, List.drop_zero, List.take_nil, List.drop_nil]
                      repeat (go_big_quiet_step (fail))
                      refine wpQuiet_nil ?_
                      show wpList _ _ _ _ _ _
                      have hb9 : Below W2.heap.size W2 W2.drew := ba_drew (Below.refl _ _)
                      have HO9 := Lib.hid (own_kept HO7.out (fun k hk => hb9.block k (HO7.out.lt k hk).2))
                      go_wp2
                      go_roundw
                      case rel => exact ⟨m + 1, by omega, by go_num, by rw [HV.out]; exact HO9.out, ba_via hb9 hb12⟩
                      case measure => simp [intOf]; omega
                    · cases tok
                      · have HV := Lib.hid (show S.gI hs (C.take (m + 1)) q = S.gI hs (C.take m) q by rw [HGN.out, if_neg (by rw [HIN.out]; simp)]; simp)
                        refine wp_region_mix 12 [11] (by kernel_rfl) (by kernel_rfl) (of_decide_eq_true (by kernel_rfl)) ?_
                        try simp only [wpSegs, List.take_succ_cons, List.take_zero, List.drop_succ_cons, List.drop_zero, List.take_nil, List.drop_nil]
                        repeat (first | (refine quietLoad (by rfl) 34 (.tmp 3) rfl _ _ rfl _ _ (quietBy fun W hw => (HD2.out.via hw).range) Tryz.underlying34 rfl (by kernel_rfl) ?_; intro aQ hQ; simp only [go_sem, List.setIfInBounds_toArray, List.set_cons_succ, List.set_cons_zero] at hQ; subst hQ) | go_big_quiet_step (fail))
                        refine wpQuiet_nil ?_
                        show wpList _ _ _ _ _ _
                        go_wp2_with (fail)
                        refine seg_next (grow_to belr) ?_
                        try simp only [wpSegs, List.take_succ_cons, List.take_zero, List.drop_succ_cons, List.drop_zero, List.take_nil, List.drop_nil]
                        repeat (go_big_quiet_step (fail))
                        refine wpQuiet_nil ?_
                        show wpList _ _ _ _ _ _
                        have hb9 : Below W2.heap.size W2 W2.drew := ba_drew (Below.refl _ _)
                        have HO9 := Lib.hid (own_kept HO7.out (fun k hk => hb9.block k (HO7.out.lt k hk).2))
                        go_wp2
                        go_roundw
                        case rel => exact ⟨m + 1, by omega, by go_num, by rw [HV.out]; exact HO9.out, ba_via hb9 hb12⟩
                        case measure => simp [intOf]; omega
                      · cases ts
                        · have HV := Lib.hid (show S.gI hs (C.take (m + 1)) q = S.gI hs (C.take m) q by rw [HGN.out, if_neg (by rw [HIN.out]; simp)]; simp)
                          refine wp_region_mix 12 [11] (by kernel_rfl) (by kernel_rfl) (of_decide_eq_true (by kernel_rfl)) ?_
                          try simp only [wpSegs, List.take_succ_cons, List.take_zero, List.drop_succ_cons, List.drop_zero, List.take_nil, List.drop_nil]
                          repeat (first | (refine quietLoad (by rfl) 34 (.tmp 3) rfl _ _ rfl _ _ (quietBy fun W hw => (HD2.out.via hw).range) Tryz.underlying34 rfl (by kernel_rfl) ?_; intro aQ hQ; simp only [go_sem, List.setIfInBounds_toArray, List.set_cons_succ, List.set_cons_zero] at hQ; subst hQ) | go_big_quiet_step (fail))
                          refine wpQuiet_nil ?_
                          show wpList _ _ _ _ _ _
                          go_wp2_with ((go_at_call 91; (with_reducible refine (HSE.out _ belr).mono ?_); rintro e w6 ⟨rfl, hbw6⟩))
                          refine seg_next (grow_to belr) ?_
                          try simp only [wpSegs, List.take_succ_cons, List.take_zero, List.drop_succ_cons, List.drop_zero, List.take_nil, List.drop_nil]
                          repeat (go_big_quiet_step (fail))
                          refine wpQuiet_nil ?_
                          show wpList _ _ _ _ _ _
                          have hb9 : Below W2.heap.size W2 w6 := ba_via hbw6 (ba_drew (Below.refl _ _))
                          have HO9 := Lib.hid (own_kept HO7.out (fun k hk => hb9.block k (HO7.out.lt k hk).2))
                          go_wp2
                          go_roundw
                          case rel => exact ⟨m + 1, by omega, by go_num, by rw [HV.out]; exact HO9.out, ba_via hb9 hb12⟩
                          case measure => simp [intOf]; omega
                        · by_cases h1 : lo ≤ p
                          · by_cases h2 : p < hi
                            · have HV := Lib.hid (show S.gI hs (C.take (m + 1)) q = S.gI hs (C.take m) q ++ [(q : Int)] by rw [HGN.out, if_pos (by rw [HIN.out, decide_eq_true h1, decide_eq_true h2]; rfl)])
                              refine wp_region_mix 12 [11] (by kernel_rfl) (by kernel_rfl) (of_decide_eq_true (by kernel_rfl)) ?_
                              try simp only [wpSegs, List.take_succ_cons, List.take_zero, List.drop_succ_cons, List.drop_zero, List.take_nil, List.drop_nil]
                              repeat (first | (refine quietLoad (by rfl) 34 (.tmp 3) rfl _ _ rfl _ _ (quietBy fun W hw => (HD2.out.via hw).range) Tryz.underlying34 rfl (by kernel_rfl) ?_; intro aQ hQ; simp only [go_sem, List.setIfInBounds_toArray, List.set_cons_succ, List.set_cons_zero] at hQ; subst hQ) | go_big_quiet_step (fail))
                              refine wpQuiet_nil ?_
                              show wpList _ _ _ _ _ _
                              go_wp2_with ((go_at_call 91; (with_reducible refine (HSE.out _ belr).mono ?_); rintro e w6 ⟨rfl, hbw6⟩))
                              refine seg_next (grow_to belr) ?_
                              try simp only [wpSegs, List.take_succ_cons, List.take_zero, List.drop_succ_cons, List.drop_zero, List.take_nil, List.drop_nil]
                              repeat (go_big_quiet_step (fail))
                              refine wpQuiet_nil ?_
                              show wpList _ _ _ _ _ _
                              have hb9 : Below W2.heap.size W2 w6 := ba_via hbw6 (ba_drew (Below.refl _ _))
                              have HO9 := Lib.hid (own_kept HO7.out (fun k hk => hb9.block k (HO7.out.lt k hk).2))
                              have hb19 : Below w1.heap.size w1 w6 := ba_via hb9 hb12
                              have h19 := hb19.size
                              have hbE1 : w1.heap.size ≤ w6.heap.size := by omega
                              have hGL : (S.gB ov hs C q ++ S.gI hs (C.take m) q).length ≤ 4002000 := by rw [List.length_append]; omega
                              clear y0 y1 bl
                              generalize hG : S.gB ov hs C q ++ S.gI hs (C.take m) q = G at *
                              have HG := Lib.hid hG
                              clear hG
                              go_wp2_with (at_builtin; refine wpList_push rfl (.tmp 108) (.tmp 110) _ rfl elemInt ((show Row w6 w6 u8.ownBlock w1.heap.size 3 1 u8 G.length (i64s G) from ⟨HO9.out, fun k hk => .inl hk.symm⟩).alloc _) ((Exc.refl u8.ownBlock.toList w6).alloc _) (by intro k hk; simp [hk]) hbE1 rfl w6.heap.size 1 1 [.int .i64 q] rfl rfl ?_ (by simp [Value.oneCell']) (by unfold maxLen; omega) (by omega) ?_; (· intro j u hu; exact one_new _ _ _ _ j u hu); intro v2 wE hRE hXE hOE)
                              have hown := hRE.own
                              have hbE : Below w1.heap.size w1 wE := hb19.trans (hXE.below (by omega) (fun g hg => (HO9.out.lt g (by simpa using hg)).1))
                              go_roundw
                              case rel => exact ⟨m + 1, by omega, by go_num, by rw [HV.out, ← List.append_assoc, HG.out]; simpa using hown, hbE⟩
                              case measure => simp [intOf]; omega
                            · have h3 : decide (p < hi) = false := decide_eq_false h2
                              have HF := Lib.hid h3
                              have HV := Lib.hid (show S.gI hs (C.take (m + 1)) q = S.gI hs (C.take m) q by rw [HGN.out, if_neg (by rw [HIN.out, HF.out]; simp)]; simp)
                              refine wp_region_mix 12 [11] (by kernel_rfl) (by kernel_rfl) (of_decide_eq_true (by kernel_rfl)) ?_
                              try simp only [wpSegs, List.take_succ_cons, List.take_zero, List.drop_succ_cons, List.drop_zero, List.take_nil, List.drop_nil]
                              repeat (first | (refine quietLoad (by rfl) 34 (.tmp 3) rfl _ _ rfl _ _ (quietBy fun W hw => (HD2.out.via hw).range) Tryz.underlying34 rfl (by kernel_rfl) ?_; intro aQ hQ; simp only [go_sem, List.setIfInBounds_toArray, List.set_cons_succ, List.set_cons_zero] at hQ; subst hQ) | go_big_quiet_step (fail))
                              refine wpQuiet_nil ?_
                              show wpList _ _ _ _ _ _
                              go_wp2_with ((go_at_call 91; (with_reducible refine (HSE.out _ belr).mono ?_); rintro e w6 ⟨rfl, hbw6⟩))
                              refine seg_next (grow_to belr) ?_
                              try simp only [wpSegs, List.take_succ_cons, List.take_zero, List.drop_succ_cons, List.drop_zero, List.take_nil, List.drop_nil]
                              repeat (go_big_quiet_step (fail))
                              refine wpQuiet_nil ?_
                              show wpList _ _ _ _ _ _
                              have hb9 : Below W2.heap.size W2 w6 := ba_via hbw6 (ba_drew (Below.refl _ _))
                              have HO9 := Lib.hid (own_kept HO7.out (fun k hk => hb9.block k (HO7.out.lt k hk).2))
                              go_wp2
                              go_roundw
                              case rel => exact ⟨m + 1, by omega, by go_num, by rw [HV.out]; exact HO9.out, ba_via hb9 hb12⟩
                              case measure => simp [intOf]; omega
                          · have h3 : decide (lo ≤ p) = false := decide_eq_false h1
                            have HF := Lib.hid h3
                            have HV := Lib.hid (show S.gI hs (C.take (m + 1)) q = S.gI hs (C.take m) q by rw [HGN.out, if_neg (by rw [HIN.out, HF.out]; simp)]; simp)
                            refine wp_region_mix 12 [11] (by kernel_rfl) (by kernel_rfl) (of_decide_eq_true (by kernel_rfl)) ?_
                            try simp only [wpSegs, List.take_succ_cons, List.take_zero, List.drop_succ_cons, List.drop_zero, List.take_nil, List.drop_nil]
                            repeat (first | (refine quietLoad (by rfl) 34 (.tmp 3) rfl _ _ rfl _ _ (quietBy fun W hw => (HD2.out.via hw).range) Tryz.underlying34 rfl (by kernel_rfl) ?_; intro aQ hQ; simp only [go_sem, List.setIfInBounds_toArray, List.set_cons_succ, List.set_cons_zero] at hQ; subst hQ) | go_big_quiet_step (fail))
                            refine wpQuiet_nil ?_
                            show wpList _ _ _ _ _ _
                            go_wp2_with ((go_at_call 91; (with_reducible refine (HSE.out _ belr).mono ?_); rintro e w6 ⟨rfl, hbw6⟩))
                            refine seg_next (grow_to belr) ?_
                            try simp only [wpSegs, List.take_succ_cons, List.take_zero, List.drop_succ_cons, List.drop_zero, List.take_nil, List.drop_nil]
                            repeat (go_big_quiet_step (fail))
                            refine wpQuiet_nil ?_
                            show wpList _ _ _ _ _ _
                            have hb9 : Below W2.heap.size W2 w6 := ba_via hbw6 (ba_drew (Below.refl _ _))
                            have HO9 := Lib.hid (own_kept HO7.out (fun k hk => hb9.block k (HO7.out.lt k hk).2))
                            go_wp2
                            go_roundw
                            case rel => exact ⟨m + 1, by omega, by go_num, by rw [HV.out]; exact HO9.out, ba_via hb9 hb12⟩
                            case measure => simp [intOf]; omega
              · have hmn : m = nc := by omega
                have hmi : ¬ ((m : Int) < nc) := by omega
                have HE := Lib.hid (show S.gB ov hs C q ++ S.gI hs (C.take m) q = S.gB ov hs C (q + 1) by rw [HTV.out, List.take_of_length_le (by rw [hmn, HNC.out]; exact Nat.le_refl _)])
                go_wp2
                go_roundw
                case rel => exact ⟨q + 1, by omega, by go_num, by rw [← HE.out]; exact HO5.out, hb1m⟩
                case measure => simp [intOf]; omega
          · have HE := Lib.hid (HNO.out (by rw [HOVq.out, decide_eq_false h2]; simp))
            have h2' : ghi < p := by omega
            have h1' : ¬ (p < glo) := by omega
            clear h1 h2
            go_wp2
            go_roundw
            case rel => exact ⟨q + 1, by omega, by go_num, by rw [HE.out]; exact HO4.out, hb14⟩
            case measure => simp [intOf]; omega
        · have HE := Lib.hid (HNO.out (by rw [HOVq.out, decide_eq_false h1]; simp))
          have h1' : p < glo := by omega
          clear h1
          go_wp2
          go_roundw
          case rel => exact ⟨q + 1, by omega, by go_num, by rw [HE.out]; exact HO4.out, hb14⟩
          case measure => simp [intOf]; omega
    · have hqn : q = n := by omega
      have hqi : ¬ ((q : Int) < n) := by omega
      go_wp2_with (first
        | ((with_reducible refine at_load 34 3 ?_); refine wpList_load_mid rfl 34 (.tmp 3) rfl _ _ rfl _ _ (HDQ.out.via belr).range Tryz.underlying34 rfl (by kernel_rfl) ?_)
        | (go_at_call 42; (with_reducible refine (HCNq.out _ belr).mono ?_); rintro e w2 ⟨rfl, hbw2⟩))
      have hO2 := own_kept HO.out (fun k hk => hbw2.block k (HO.out.lt k hk).2)
      rw [hqn] at hO2
      obtain ⟨A5, c5, rfl, _, _, _⟩ := own_form hO2 (by rw [← hqn]; unfold maxLen; omega)
      go_ret
      exact ⟨A5, c5, rfl, own_mono hO2 hw1s, ba_via hbw2 hbwq⟩
end Go.Proofs.YtffkmgjmlahfpaaGreat
