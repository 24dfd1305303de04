/- The hull of points touches its points on all sides, and contains them (no program in sight). -/
import Derived.Test.YtpjdepnbeendcaaBoxC
set_option linter.unusedVariables false
set_option linter.unusedSimpArgs false
namespace Go.Proofs.Ytpjdepnbeendcaa
/-- The least, or greatest, value of f. -/
def S.mn (f : Bx → Int) (m : Int) (l : List Bx) : Int := l.foldl (fun m b => if f b < m then f b else m) m
def S.mx (f : Bx → Int) (m : Int) (l : List Bx) : Int := l.foldl (fun m b => if m < f b then f b else m) m
theorem mn_spec (f : Bx → Int) : ∀ (l : List Bx) (m : Int), S.mn f m l ≤ m ∧ (∀ b, b ∈ l → S.mn f m l ≤ f b) ∧ (S.mn f m l = m ∨ ∃ b, b ∈ l ∧ S.mn f m l = f b) := by
  intro l
  induction l with
  | nil => intro m; exact ⟨Int.le_refl _, by simp, .inl rfl⟩
  | cons x l ih =>
    intro m
    by_cases hx : f x < m
    · have e : S.mn f m (x :: l) = S.mn f (f x) l := by simp [S.mn, hx]
      rw [e]
      obtain ⟨h1, h2, h3⟩ := ih (f x)
      refine ⟨by omega, fun b hb => ?_, ?_⟩
      · rcases List.mem_cons.1 hb with rfl | hb
        · exact h1
        · exact h2 b hb
      · rcases h3 with h3 | ⟨b, hb, h3⟩
        · exact .inr ⟨x, List.mem_cons_self, h3⟩
        · exact .inr ⟨b, List.mem_cons_of_mem _ hb, h3⟩
    · have e : S.mn f m (x :: l) = S.mn f m l := by simp [S.mn, hx]
      rw [e]
      obtain ⟨h1, h2, h3⟩ := ih m
      refine ⟨h1, fun b hb => ?_, ?_⟩
      · rcases List.mem_cons.1 hb with rfl | hb
        · omega
        · exact h2 b hb
      · rcases h3 with h3 | ⟨b, hb, h3⟩
        · exact .inl h3
        · exact .inr ⟨b, List.mem_cons_of_mem _ hb, h3⟩
theorem mx_spec (f : Bx → Int) : ∀ (l : List Bx) (m : Int), m ≤ S.mx f m l ∧ (∀ b, b ∈ l → f b ≤ S.mx f m l) ∧ (S.mx f m l = m ∨ ∃ b, b ∈ l ∧ S.mx f m l = f b) := by
  intro l
  induction l with
  | nil => intro m; exact ⟨Int.le_refl _, by simp, .inl rfl⟩
  | cons x l ih =>
    intro m
    by_cases hx : m < f x
    · have e : S.mx f m (x :: l) = S.mx f (f x) l := by simp [S.mx, hx]
      rw [e]
      obtain ⟨h1, h2, h3⟩ := ih (f x)
      refine ⟨by omega, fun b hb => ?_, ?_⟩
      · rcases List.mem_cons.1 hb with rfl | hb
        · exact h1
        · exact h2 b hb
      · rcases h3 with h3 | ⟨b, hb, h3⟩
        · exact .inr ⟨x, List.mem_cons_self, h3⟩
        · exact .inr ⟨b, List.mem_cons_of_mem _ hb, h3⟩
    · have e : S.mx f m (x :: l) = S.mx f m l := by simp [S.mx, hx]
      rw [e]
      obtain ⟨h1, h2, h3⟩ := ih m
      refine ⟨h1, fun b hb => ?_, ?_⟩
      · rcases List.mem_cons.1 hb with rfl | hb
        · omega
        · exact h2 b hb
      · rcases h3 with h3 | ⟨b, hb, h3⟩
        · exact .inl h3
        · exact .inr ⟨b, List.mem_cons_of_mem _ hb, h3⟩
theorem hull_parts : ∀ (l : List Bx) (a : Bx), S.hull a l = ⟨⟨S.mn (·.lo.x) a.lo.x l, S.mn (·.lo.y) a.lo.y l, S.mn (·.lo.z) a.lo.z l⟩, ⟨S.mx (·.hi.x) a.hi.x l, S.mx (·.hi.y) a.hi.y l, S.mx (·.hi.z) a.hi.z l⟩⟩ := by
  intro l
  induction l with
  | nil => intro a; rfl
  | cons x l ih =>
    intro a
    have e : S.hull a (x :: l) = S.hull (S.join a x) l := rfl
    rw [e, ih]
    rfl
namespace S
/-- Whether a point touches a side of a box. -/
def tch (X : Bx) (j : Nat) (p : Pt) : Bool := if j = 0 then p.x == X.lo.x else if j = 1 then p.y == X.lo.y else if j = 2 then p.z == X.lo.z else if j = 3 then p.x == X.hi.x else if j = 4 then p.y == X.hi.y else p.z == X.hi.z
def tchd (X : Bx) (ps : List Pt) (j k : Nat) : Bool := (ps.take k).any (tch X j)
end S
theorem tchd_zero (X : Bx) (ps : List Pt) (j : Nat) : S.tchd X ps j 0 = false := by simp [S.tchd]
theorem tchd_succ (X : Bx) (ps : List Pt) (j : Nat) {k : Nat} {p : Pt} (h : ps[k]? = some p) : S.tchd X ps j (k + 1) = (S.tchd X ps j k || S.tch X j p) := by
  obtain ⟨hk, rfl⟩ := List.getElem?_eq_some_iff.1 h
  unfold S.tchd
  rw [List.take_succ_eq_append_getElem hk, List.any_append]
  simp only [List.any_cons, List.any_nil, Bool.or_false]
/-- A point of a path lies in the box. -/
theorem box_in (b : Bar) {p : Pt} (h : p ∈ S.path b) : (S.box b).lo.x ≤ p.x ∧ p.x ≤ (S.box b).hi.x ∧ (S.box b).lo.y ≤ p.y ∧ p.y ≤ (S.box b).hi.y ∧ (S.box b).lo.z ≤ p.z ∧ p.z ≤ (S.box b).hi.z := by
  have hm : S.ptBox p ∈ S.ptBoxes b := List.mem_map.2 ⟨p, h, rfl⟩
  unfold S.box
  rw [hull_parts]
  exact ⟨(mn_spec (·.lo.x) _ _).2.1 _ hm, (mx_spec (·.hi.x) _ _).2.1 _ hm, (mn_spec (·.lo.y) _ _).2.1 _ hm, (mx_spec (·.hi.y) _ _).2.1 _ hm, (mn_spec (·.lo.z) _ _).2.1 _ hm, (mx_spec (·.hi.z) _ _).2.1 _ hm⟩
theorem tch_of {b : Bar} {j : Nat} {p : Pt} (hp : p ∈ S.path b) (h : S.tch (S.box b) j p = true) : S.tchd (S.box b) (S.path b) j ((S.legsOf b.code).length + 1) = true := by
  unfold S.tchd
  rw [List.take_of_length_le (by rw [path_length]; exact Nat.le_refl _)]
  exact List.any_eq_true.2 ⟨p, hp, h⟩
theorem zero_in (b : Bar) : (⟨0, 0, 0⟩ : Pt) ∈ S.path b := List.mem_of_getElem? (path_get b (Nat.zero_le _))
/-- The box is touched on all sides. -/
theorem box_touched (b : Bar) (j : Nat) (hj : j < 6) : S.tchd (S.box b) (S.path b) j ((S.legsOf b.code).length + 1) = true := by
  have key : ∀ (v : Int) (g : Pt → Int) (f : Bx → Int) (hf : ∀ p, f (S.ptBox p) = g p), (v = f (S.ptBox ⟨0, 0, 0⟩) ∨ ∃ x, x ∈ S.ptBoxes b ∧ v = f x) → ∃ p, p ∈ S.path b ∧ g p = v := by
    intro v g f hf h
    rcases h with h | ⟨x, hx, h⟩
    · exact ⟨_, zero_in b, by rw [h, hf]⟩
    · obtain ⟨p, hp, rfl⟩ := List.mem_map.1 hx
      exact ⟨p, hp, by rw [h, hf]⟩
  have hb : S.box b = _ := hull_parts (S.ptBoxes b) (S.ptBox ⟨0, 0, 0⟩)
  have hc : j = 0 ∨ j = 1 ∨ j = 2 ∨ j = 3 ∨ j = 4 ∨ j = 5 := by omega
  rcases hc with rfl | rfl | rfl | rfl | rfl | rfl
  · obtain ⟨p, hp, e⟩ := key (S.box b).lo.x (·.x) (·.lo.x) (fun _ => rfl) (by rw [hb]; exact (mn_spec (·.lo.x) _ _).2.2)
    exact tch_of hp (by simp [S.tch, e])
  · obtain ⟨p, hp, e⟩ := key (S.box b).lo.y (·.y) (·.lo.y) (fun _ => rfl) (by rw [hb]; exact (mn_spec (·.lo.y) _ _).2.2)
    exact tch_of hp (by simp [S.tch, e])
  · obtain ⟨p, hp, e⟩ := key (S.box b).lo.z (·.z) (·.lo.z) (fun _ => rfl) (by rw [hb]; exact (mn_spec (·.lo.z) _ _).2.2)
    exact tch_of hp (by simp [S.tch, e])
  · obtain ⟨p, hp, e⟩ := key (S.box b).hi.x (·.x) (·.hi.x) (fun _ => rfl) (by rw [hb]; exact (mx_spec (·.hi.x) _ _).2.2)
    exact tch_of hp (by simp [S.tch, e])
  · obtain ⟨p, hp, e⟩ := key (S.box b).hi.y (·.y) (·.hi.y) (fun _ => rfl) (by rw [hb]; exact (mx_spec (·.hi.y) _ _).2.2)
    exact tch_of hp (by simp [S.tch, e])
  · obtain ⟨p, hp, e⟩ := key (S.box b).hi.z (·.z) (·.hi.z) (fun _ => rfl) (by rw [hb]; exact (mx_spec (·.hi.z) _ _).2.2)
    exact tch_of hp (by simp [S.tch, e])
end Go.Proofs.Ytpjdepnbeendcaa
