/- What moving and turning a member and its legs changes (no program in sight). -/
import Derived.Test.YtiebbklljckbdaaEndsD
set_option linter.unusedVariables false
set_option linter.unusedSimpArgs false
namespace Go.Proofs.Ytiebbklljckbdaa
namespace S
def mapMem (f : Bx → Bx) (m : Mem) : Mem := ⟨m.name, m.boxes.map f, m.holes.map f, m.cover, m.aggr, m.poker⟩
def mirX (b : Bx) : Bx := ⟨⟨-b.hi.x, b.lo.y, b.lo.z⟩, ⟨-b.lo.x, b.hi.y, b.hi.z⟩⟩
def mirY (b : Bx) : Bx := ⟨⟨b.lo.x, -b.hi.y, b.lo.z⟩, ⟨b.hi.x, -b.lo.y, b.hi.z⟩⟩
def shift (d : Pt) (b : Bx) : Bx := ⟨⟨b.lo.x + d.x, b.lo.y + d.y, b.lo.z + d.z⟩, ⟨b.hi.x + d.x, b.hi.y + d.y, b.hi.z + d.z⟩⟩
def gX (p : Pt) : Pt := ⟨-p.x, p.y, p.z⟩
def gY (p : Pt) : Pt := ⟨p.x, -p.y, p.z⟩
def gS (d p : Pt) : Pt := ⟨p.x + d.x, p.y + d.y, p.z + d.z⟩
end S
theorem hull_z {f : Bx → Bx} {dz : Int} (hz : ∀ b, (f b).lo.z = b.lo.z + dz) (a : Bx) (l : List Bx) : (S.hull (f a) (l.map f)).lo.z = (S.hull a l).lo.z + dz := by
  have : ∀ (l : List Bx) (a a' : Bx), a'.lo.z = a.lo.z + dz → (S.hull a' (l.map f)).lo.z = (S.hull a l).lo.z + dz := by
    intro l
    induction l with
    | nil => intro a a' h; exact h
    | cons x l ih =>
      intro a a' h
      refine ih (S.join a x) (S.join a' (f x)) ?_
      have hx := hz x
      simp only [S.join]
      rw [hx, h]
      split <;> split <;> omega
  exact this l a (f a) (hz a)
theorem poor_map {f : Bx → Bx} {dz : Int} (hz : ∀ b, (f b).lo.z = b.lo.z + dz) (xs : List Bx) (h : 1 ≤ xs.length) (X : Bx) : S.poor (xs.map f) (f X) = S.poor xs X := by
  cases xs with
  | nil => simp at h
  | cons x l =>
    unfold S.poor
    have h1 := hull_z hz x (x :: l)
    have h2 := hz X
    have e1 : ((x :: l).map f).headD ⟨⟨0, 0, 0⟩, ⟨0, 0, 0⟩⟩ = f x := rfl
    have e2 : (x :: l).headD ⟨⟨0, 0, 0⟩, ⟨0, 0, 0⟩⟩ = x := rfl
    rw [e1, e2, h1, h2, Bool.eq_iff_iff]
    simp only [decide_eq_true_eq]
    omega
theorem idxf_map {f : Bx → Bx} {p : Bx → Bool} (h : ∀ b, p (f b) = p b) (xs : List Bx) : idxf (xs.map f) p = idxf xs p := by
  unfold idxf
  rw [List.findIdx?_map]
  have : p ∘ f = p := funext h
  rw [this]
theorem given_map {r : Rule} {m : Mem} {b : Bar} {xs : List Bx} {f : Bx → Bx} (h : S.given r m b xs = 0) (hm : ∀ b, S.isMain (f b) = S.isMain b) :
    S.given r (S.mapMem f m) b (xs.map f) = if S.solid (m.boxes.map f) (m.holes.map f) = true ∧ anyb (xs.map f) S.boxNot = false then 0 else 1 := by
  obtain ⟨h1, h2, h3, h4⟩ := given_zero h
  have h5 : S.heads r (S.mapMem f m) b = S.solid (m.boxes.map f) (m.holes.map f) := by
    simp only [S.heads, S.member, Bool.and_eq_true] at h1
    obtain ⟨⟨a1, ⟨⟨⟨a2, a3⟩, a4⟩, a5⟩, a6⟩, a7⟩ := h1
    simp [S.heads, S.member, S.mapMem, a1, a2, a4, a5, a6, a7]
  unfold S.given
  rw [h5, idxf_map hm, List.length_map]
  cases hs : S.solid (m.boxes.map f) (m.holes.map f)
  · simp
  · cases ha : anyb (xs.map f) S.boxNot
    · have : ¬ idxf xs S.isMain < 0 := by omega
      simp [h3, this]
    · simp
theorem touch_map {f : Bx → Bx} {g : Pt → Pt} {p : Pt} (hc : ∀ b, S.cont (f b) (S.pbox (g p)) = S.cont b (S.pbox p)) (xs : List Bx) {j : Nat} (hj : j < xs.length) : S.touch (xs.map f) j (g p) = S.touch xs j p := by
  unfold S.touch
  have e1 : (xs.map f).getD j S.zbox = f xs[j] := by simp [List.getD_eq_getElem?_getD, hj]
  have e2 : xs.getD j S.zbox = xs[j] := by simp [List.getD_eq_getElem?_getD, hj]
  rw [e1, e2, hc]
theorem bent_map {f : Bx → Bx} {g : Pt → Pt} {p : Pt} (hc : ∀ b, S.cont (f b) (S.pbox (g p)) = S.cont b (S.pbox p)) (xs : List Bx) {k : Nat} (hk : k < xs.length) : S.bent (xs.map f) k (g p) = S.bent xs k p := by
  unfold S.bent
  rw [List.length_map, touch_map hc xs (show k - 1 < xs.length by omega)]
  by_cases h : k + 1 < xs.length
  · rw [touch_map hc xs h]
  · simp [h]
theorem endLen_map {f : Bx → Bx} {g : Pt → Pt} {p : Pt} {dz : Int} (hz : ∀ b, (f b).lo.z = b.lo.z + dz) (hc : ∀ b, S.cont (f b) (S.pbox (g p)) = S.cont b (S.pbox p)) (r : Rule) (m : Mem) (b : Bar) (xs : List Bx) {k : Nat} (hk : k < xs.length) (hb : 1 ≤ m.boxes.length) :
    S.endLen r (S.mapMem f m) b (xs.map f) k (g p) = S.endLen r m b xs k p := by
  unfold S.endLen
  have e1 : (xs.map f).getD k S.zbox = f xs[k] := by simp [List.getD_eq_getElem?_getD, hk]
  have e2 : xs.getD k S.zbox = xs[k] := by simp [List.getD_eq_getElem?_getD, hk]
  have e3 : (S.mapMem f m).boxes = m.boxes.map f := rfl
  rw [e1, e2, e3, poor_map hz _ hb, bent_map hc xs hk]
theorem boxOk_iff {b : Bx} : S.boxOk b = true ↔ (b.lo.x ≤ b.hi.x ∧ -1048576 ≤ b.lo.x ∧ b.hi.x ≤ 1048576) ∧ (b.lo.y ≤ b.hi.y ∧ -1048576 ≤ b.lo.y ∧ b.hi.y ≤ 1048576) ∧ (b.lo.z ≤ b.hi.z ∧ -1048576 ≤ b.lo.z ∧ b.hi.z ≤ 1048576) := by
  simp [S.boxOk, S.okAx, and_assoc]
theorem thick_iff {b : Bx} : S.thick b = true ↔ S.boxOk b = true ∧ b.lo.x < b.hi.x ∧ b.lo.y < b.hi.y ∧ b.lo.z < b.hi.z := by simp [S.thick, and_assoc]
theorem isMain_iff {b : Bx} : S.isMain b = true ↔ b.lo.x < b.hi.x ∧ b.lo.y = b.hi.y ∧ b.lo.z = b.hi.z := by simp [S.isMain, and_assoc]
theorem mirX_ok (b : Bx) : S.boxOk (S.mirX b) = S.boxOk b := by
  rw [Bool.eq_iff_iff, boxOk_iff, boxOk_iff]
  simp only [S.mirX]
  constructor <;> (intro h; omega)
theorem mirX_thick (b : Bx) : S.thick (S.mirX b) = S.thick b := by
  rw [Bool.eq_iff_iff, thick_iff, thick_iff, mirX_ok]
  simp only [S.mirX]
  constructor <;> (rintro ⟨h1, h2⟩; exact ⟨h1, by omega⟩)
theorem mirX_main (b : Bx) : S.isMain (S.mirX b) = S.isMain b := by
  rw [Bool.eq_iff_iff, isMain_iff, isMain_iff]
  simp only [S.mirX]
  constructor <;> (intro h; omega)
theorem mirX_z (b : Bx) : (S.mirX b).lo.z = b.lo.z + 0 := by simp [S.mirX]
theorem mirX_cont (p : Pt) (b : Bx) : S.cont (S.mirX b) (S.pbox (S.gX p)) = S.cont b (S.pbox p) := by
  rw [Bool.eq_iff_iff, cont_iff, cont_iff]
  simp only [S.mirX, S.gX]
  constructor <;> (intro h; omega)
theorem anyb_map {f : Bx → Bx} {p : Bx → Bool} (h : ∀ b, p (f b) = p b) (xs : List Bx) : anyb (xs.map f) p = anyb xs p := by
  unfold anyb
  rw [List.any_map]
  have : p ∘ f = p := funext h
  rw [this]
theorem main_eqs {b : Bx} (h : S.isMain b = true) : b.lo.y = b.hi.y ∧ b.lo.z = b.hi.z := by
  exact (isMain_iff.1 h).2
theorem boxes_one {r : Rule} {m : Mem} {b : Bar} (h : S.heads r m b = true) : S.solid m.boxes m.holes = true ∧ 1 ≤ m.boxes.length := by
  simp only [S.heads, S.member, Bool.and_eq_true] at h
  have hs := h.1.2.1.1.1.2
  exact ⟨hs, (solid_ok hs).2⟩
/-- Turned round in X, the ends change places. -/
theorem mirrored {r : Rule} {m : Mem} {b : Bar} {xs : List Bx} (h : S.given r m b xs = 0) {j : Nat} (hj : j < xs.length) (hij : idxf xs S.isMain = j) :
    S.given r (S.mapMem S.mirX m) b (xs.map S.mirX) = 0 ∧ idxf (xs.map S.mirX) S.isMain = j ∧
    S.endLen r (S.mapMem S.mirX m) b (xs.map S.mirX) j ((xs.map S.mirX).getD j S.zbox).lo = S.endLen r m b xs j (xs.getD j S.zbox).hi ∧
    S.endLen r (S.mapMem S.mirX m) b (xs.map S.mirX) j ((xs.map S.mirX).getD j S.zbox).hi = S.endLen r m b xs j (xs.getD j S.zbox).lo := by
  obtain ⟨h1, h2, h3, h4⟩ := given_zero h
  obtain ⟨hs, hb⟩ := boxes_one h1
  have e1 : (xs.map S.mirX).getD j S.zbox = S.mirX xs[j] := by simp [List.getD_eq_getElem?_getD, hj]
  have e2 : xs.getD j S.zbox = xs[j] := by simp [List.getD_eq_getElem?_getD, hj]
  have hmain : S.isMain xs[j] = true := by
    obtain ⟨k, hk, hk1, hk2⟩ := idxf_some h4
    have : k = j := by omega
    subst this
    exact hk2
  obtain ⟨g1, g2⟩ := main_eqs hmain
  refine ⟨?_, ?_, ?_, ?_⟩
  · rw [given_map h mirX_main, if_pos]
    have hthin : ∀ b, S.thin (S.mirX b) = S.thin b := fun b => by simp [S.thin, mirX_thick]
    have hnot : ∀ b, S.boxNot (S.mirX b) = S.boxNot b := fun b => by simp [S.boxNot, mirX_ok]
    refine ⟨?_, by rw [anyb_map hnot]; exact h2⟩
    unfold S.solid at hs ⊢
    rw [List.length_map, List.length_map, anyb_map hthin, anyb_map hthin]
    exact hs
  · rw [idxf_map mirX_main, hij]
  · rw [e1, e2, show (S.mirX xs[j]).lo = S.gX xs[j].hi by simp [S.mirX, S.gX, g1, g2], endLen_map mirX_z (mirX_cont _) r m b xs hj hb]
  · rw [e1, e2, show (S.mirX xs[j]).hi = S.gX xs[j].lo by simp [S.mirX, S.gX, g1, g2], endLen_map mirX_z (mirX_cont _) r m b xs hj hb]
theorem mirY_main (b : Bx) : S.isMain (S.mirY b) = S.isMain b := by
  rw [Bool.eq_iff_iff, isMain_iff, isMain_iff]
  simp only [S.mirY]
  constructor <;> (intro h; omega)
theorem mirY_z (b : Bx) : (S.mirY b).lo.z = b.lo.z + 0 := by simp [S.mirY]
theorem mirY_cont (p : Pt) (b : Bx) : S.cont (S.mirY b) (S.pbox (S.gY p)) = S.cont b (S.pbox p) := by
  rw [Bool.eq_iff_iff, cont_iff, cont_iff]
  simp only [S.mirY, S.gY]
  constructor <;> (intro h; omega)
theorem shift_main (d : Pt) (b : Bx) : S.isMain (S.shift d b) = S.isMain b := by
  rw [Bool.eq_iff_iff, isMain_iff, isMain_iff]
  simp only [S.shift]
  constructor <;> (intro h; omega)
theorem shift_cont (d p : Pt) (b : Bx) : S.cont (S.shift d b) (S.pbox (S.gS d p)) = S.cont b (S.pbox p) := by
  rw [Bool.eq_iff_iff, cont_iff, cont_iff]
  simp only [S.shift, S.gS]
  constructor <;> (intro h; omega)
/-- A motion f that keeps main legs, and moves their ends by g, changes no length, or makes a coordinate too great. -/
theorem moved {f : Bx → Bx} {g : Pt → Pt} {dz : Int} (hm : ∀ b, S.isMain (f b) = S.isMain b) (hz : ∀ b, (f b).lo.z = b.lo.z + dz) (hc : ∀ p b, S.cont (f b) (S.pbox (g p)) = S.cont b (S.pbox p))
    (he : ∀ b, S.isMain b = true → (f b).lo = g b.lo ∧ (f b).hi = g b.hi)
    {r : Rule} {m : Mem} {b : Bar} {xs : List Bx} (h : S.given r m b xs = 0) {j : Nat} (hj : j < xs.length) (hij : idxf xs S.isMain = j) :
    S.given r (S.mapMem f m) b (xs.map f) = 1 ∨ (S.given r (S.mapMem f m) b (xs.map f) = 0 ∧ idxf (xs.map f) S.isMain = j ∧
    S.endLen r (S.mapMem f m) b (xs.map f) j ((xs.map f).getD j S.zbox).lo = S.endLen r m b xs j (xs.getD j S.zbox).lo ∧
    S.endLen r (S.mapMem f m) b (xs.map f) j ((xs.map f).getD j S.zbox).hi = S.endLen r m b xs j (xs.getD j S.zbox).hi) := by
  obtain ⟨h1, h2, h3, h4⟩ := given_zero h
  obtain ⟨hs, hb⟩ := boxes_one h1
  have e1 : (xs.map f).getD j S.zbox = f xs[j] := by simp [List.getD_eq_getElem?_getD, hj]
  have e2 : xs.getD j S.zbox = xs[j] := by simp [List.getD_eq_getElem?_getD, hj]
  have hmain : S.isMain xs[j] = true := by
    obtain ⟨k, hk, hk1, hk2⟩ := idxf_some h4
    have : k = j := by omega
    subst this
    exact hk2
  obtain ⟨g1, g2⟩ := he _ hmain
  have hg := given_map h hm
  by_cases hx : S.solid (m.boxes.map f) (m.holes.map f) = true ∧ anyb (xs.map f) S.boxNot = false
  · rw [if_pos hx] at hg
    refine .inr ⟨hg, by rw [idxf_map hm, hij], ?_, ?_⟩
    · rw [e1, e2, g1, endLen_map hz (hc _) r m b xs hj hb]
    · rw [e1, e2, g2, endLen_map hz (hc _) r m b xs hj hb]
  · rw [if_neg hx] at hg
    exact .inl hg
theorem moved_shift (d : Pt) {r : Rule} {m : Mem} {b : Bar} {xs : List Bx} (h : S.given r m b xs = 0) {j : Nat} (hj : j < xs.length) (hij : idxf xs S.isMain = j) :
    S.given r (S.mapMem (S.shift d) m) b (xs.map (S.shift d)) = 1 ∨ (S.given r (S.mapMem (S.shift d) m) b (xs.map (S.shift d)) = 0 ∧ idxf (xs.map (S.shift d)) S.isMain = j ∧
    S.endLen r (S.mapMem (S.shift d) m) b (xs.map (S.shift d)) j ((xs.map (S.shift d)).getD j S.zbox).lo = S.endLen r m b xs j (xs.getD j S.zbox).lo ∧
    S.endLen r (S.mapMem (S.shift d) m) b (xs.map (S.shift d)) j ((xs.map (S.shift d)).getD j S.zbox).hi = S.endLen r m b xs j (xs.getD j S.zbox).hi) :=
  moved (g := S.gS d) (dz := d.z) (shift_main d) (fun b => rfl) (fun p b => shift_cont d p b) (fun b _ => ⟨rfl, rfl⟩) h hj hij
theorem moved_mirY {r : Rule} {m : Mem} {b : Bar} {xs : List Bx} (h : S.given r m b xs = 0) {j : Nat} (hj : j < xs.length) (hij : idxf xs S.isMain = j) :
    S.given r (S.mapMem S.mirY m) b (xs.map S.mirY) = 1 ∨ (S.given r (S.mapMem S.mirY m) b (xs.map S.mirY) = 0 ∧ idxf (xs.map S.mirY) S.isMain = j ∧
    S.endLen r (S.mapMem S.mirY m) b (xs.map S.mirY) j ((xs.map S.mirY).getD j S.zbox).lo = S.endLen r m b xs j (xs.getD j S.zbox).lo ∧
    S.endLen r (S.mapMem S.mirY m) b (xs.map S.mirY) j ((xs.map S.mirY).getD j S.zbox).hi = S.endLen r m b xs j (xs.getD j S.zbox).hi) :=
  moved (g := S.gY) (dz := 0) mirY_main mirY_z mirY_cont (fun b hb => by obtain ⟨h1, h2⟩ := main_eqs hb; simp [S.mirY, S.gY, h1]) h hj hij
open Go.RowKit
theorem blk_get {w : World} {g : Nat} {t : TypeId} {cs : Array Value} (h : Blk w g t cs) {j : Nat} {u : Value} (hu : cs.toList[j]? = some u) : w.cell? ⟨g, j, none⟩ = some u := (h.cell j).trans (by simpa using hu)
theorem flat_snoc {xs : List Bx} {k : Nat} (f : Bx → Bx) (hk : k < xs.length) : ((xs.take (k + 1)).map f).flatMap boxC = ((xs.take k).map f).flatMap boxC ++ boxC (f xs[k]) := by
  rw [List.take_succ_eq_append_getElem hk, List.map_append, List.flatMap_append]; simp
theorem own_kept {w w' : World} {base E size : Nat} {v : Value} {n : Nat} {xs : List Value} (h : w.ownsRow base E size v n xs) (hb : ∀ k, v.ownBlock = some k → w'.heap[k]? = w.heap[k]?) : w'.ownsRow base E size v n xs := by
  refine ⟨h.1, ?_⟩
  rcases h.2 with hn | ⟨g, cap, cur, rfl, hg, hh, rest⟩
  · exact .inl hn
  · exact .inr ⟨g, cap, cur, rfl, hg, by rw [hb g rfl]; exact hh, rest⟩
theorem own_via {w w' : World} {base E size : Nat} {v : Value} {n : Nat} {xs : List Value} (h : w.ownsRow base E size v n xs) (hb : Below w.heap.size w w') : w'.ownsRow base E size v n xs := own_kept h fun k hk => hb.block k (h.lt k hk).2
theorem own_set {w : World} {base E size : Nat} {v : Value} {n : Nat} {xs : List Value} (h : w.ownsRow base E size v n xs) {p : Addr} (hp : p.block < base) (u : Value) : (w.setCell p u).ownsRow base E size v n xs :=
  own_kept h fun k hk => Below.heap_setCell w p u k (by have := (h.lt k hk).1; omega)
end Go.Proofs.Ytiebbklljckbdaa
