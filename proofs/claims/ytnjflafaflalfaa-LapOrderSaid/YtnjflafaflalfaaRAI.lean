/- Details as arguments: where they lie. -/
import Derived.Test.YtnjflafaflalfaaRAF
import Derived.Test.YtnjflafaflalfaaRAH
import Derived.Test.YtnjflafaflalfaaRY
set_option linter.unusedVariables false
set_option linter.unusedSimpArgs false
namespace Go.Proofs.Ytnjflafaflalfaa
open Go.RowKit
structure Jn where
  first : Int
  second : Int
abbrev jnC (j : Jn) : List Value := [.int .i64 j.first, .int .i64 j.second]
abbrev jnV (j : Jn) : Value := .agg #[.int .i64 j.first, .int .i64 j.second]
theorem jnC_len (j : Jn) : (jnC j).length = 2 := rfl
structure Dt where
  m : Mem
  mA : Option Addr
  mn : Nat
  mc : Nat
  hA : Option Addr
  hn : Nat
  hc : Nat
  bs : List BarR
  bA : Option Addr
  bn : Nat
  bc : Nat
  rs : List Rn
  rA : Option Addr
  rn : Nat
  rc : Nat
  js : List Jn
  jA : Option Addr
  jn : Nat
  jc : Nat
  dA : Option Addr
  dn : Nat
  dc : Nat
  rule : Rule
abbrev dtV (x : Dt) : Value := .agg #[.string x.m.name, .slice x.mA x.mn x.mc, .slice x.hA x.hn x.hc, .int .i64 x.m.cover, .int .i64 x.m.aggr, .int .i64 x.m.poker, .slice x.bA x.bn x.bc, .slice x.rA x.rn x.rc, .slice x.jA x.jn x.jc, .slice x.dA x.dn x.dc,
  .int .i64 x.rule.num, .int .i64 x.rule.den, .int .i64 x.rule.pnum, .int .i64 x.rule.pden, .int .i64 x.rule.bnum, .int .i64 x.rule.bden, .int .i64 x.rule.lnum, .int .i64 x.rule.lden, .int .i64 x.rule.least]
structure DtAt (w : World) (B : Nat) (x : Dt) : Prop where
  sol : SolAt w B x.mA x.mn x.hA x.hn x.m.boxes x.m.holes
  name : x.m.name.size ≤ 9223372036854775807
  bars : BarsAt w B x.bA x.bn x.bs
  runs : RunsAt w B x.rA x.rn x.rs
  jlen : x.js.length = x.jn
  jmax : x.jn ≤ 9223372036854775807
  joints : Cells w B x.jA (x.js.flatMap jnC)
theorem DtAt.at_ {w w' : World} {B : Nat} {x : Dt} (h : DtAt w B x) (hB : B ≤ w.heap.size) (hb : Below w.heap.size w w') : DtAt w' B x :=
  ⟨h.sol.at_ hB hb, h.name, h.bars.at_ hB hb, h.runs.at_ hB hb, h.jlen, h.jmax, h.joints.below (hb.mono hB)⟩
theorem Blk.exc {M : List Nat} {W w : World} {g : Nat} {t : TypeId} {cs : Array Value} (h : Blk W g t cs) (hX : Exc M W w) (hg : g ∉ M) : Blk w g t cs := (hX.block g h.lt hg).trans h
theorem Cells.exc {M : List Nat} {W w : World} {B b o : Nat} {cs : List Value} (h : Cells W B (some ⟨b, o, none⟩) cs) (hX : Exc M W w) (hB : B ≤ W.heap.size) (hb : b ∉ M) (hn : 0 < cs.length) : Cells w B (some ⟨b, o, none⟩) cs := by
  obtain ⟨b', o', he, hlt, hc⟩ := h.at_ hn
  injection he with he
  injection he with h1 h2 h3
  subst h1 h2
  exact .inr ⟨b, o, rfl, hlt, fun j v hv => (hX.cell (p := ⟨b, o + j, none⟩) (by show b < _; omega) hb).trans (hc j v hv)⟩
theorem row_start {W0 w : World} {base E size : Nat} {v : Value} {n : Nat} {xs : List Value} (h : Row W0 w none base E size v n xs) : Row w w v.ownBlock base E size v n xs := ⟨h.own, fun k hk => .inl hk.symm⟩
theorem row_end {W0 w2 w3 : World} {base E size : Nat} {v0 v : Value} {n0 n : Nat} {xs0 xs : List Value} (h0 : Row W0 w2 none base E size v0 n0 xs0) (hX0 : Exc [] W0 w2) (h : Row w2 w3 v0.ownBlock base E size v n xs) (hX : Exc v0.ownBlock.toList w2 w3) : Row W0 w3 none base E size v n xs ∧ Exc [] W0 w3 := by
  refine ⟨⟨h.own, fun k hk => ?_⟩, ⟨hX.os.trans hX0.os, hX.tape.trans hX0.tape, hX.output.trans hX0.output, Nat.le_trans hX0.size hX.size, fun k hk _ => ?_⟩⟩
  · rcases h.place k hk with h1 | h1
    · rcases h0.place k h1.symm with h2 | h2
      · cases h2
      · exact .inr h2
    · exact .inr (Nat.le_trans hX0.size h1)
  · refine (hX.block k (Nat.lt_of_lt_of_le hk hX0.size) (fun hm => ?_)).trans (hX0.block k hk (by simp))
    rcases h0.place k (by simpa using hm) with h2 | h2
    · cases h2
    · omega
theorem Exc.join {M M' : List Nat} {W w w' : World} (h : Exc M W w) (h' : Exc M' w w') (hM : ∀ k, k ∈ M' → k ∈ M ∨ W.heap.size ≤ k) : Exc M W w' :=
  ⟨h'.os.trans h.os, h'.tape.trans h.tape, h'.output.trans h.output, Nat.le_trans h.size h'.size, fun k hk hm => (h'.block k (Nat.lt_of_lt_of_le hk h.size) (fun hk' => by
    rcases hM k hk' with h1 | h1
    · exact hm h1
    · omega)).trans (h.block k hk hm)⟩
theorem run_sums {bs : List Bar} {r : Rn} {k0 : Nat} {b : Bar} (h : RunOk bs r k0 b) {n : Nat} (hn : (n : Int) < r.count) :
    (IntKind.i64.wrap ((n : Int) * r.step.x) = n * r.step.x ∧ IntKind.i64.wrap ((n : Int) * r.step.y) = n * r.step.y ∧ IntKind.i64.wrap ((n : Int) * r.step.z) = n * r.step.z) ∧
    (IntKind.i64.wrap (r.at_.x + n * r.step.x) = (S.plus r.at_ r.step n).x ∧ IntKind.i64.wrap (r.at_.y + n * r.step.y) = (S.plus r.at_ r.step n).y ∧ IntKind.i64.wrap (r.at_.z + n * r.step.z) = (S.plus r.at_ r.step n).z) := by
  obtain ⟨hx, hy, hz⟩ := near1_out (h.start n (by omega) hn)
  obtain ⟨ax, ay, az⟩ := near1_out h.home
  rw [show S.plus r.at_ r.step n = ⟨r.at_.x + n * r.step.x, r.at_.y + n * r.step.y, r.at_.z + n * r.step.z⟩ from rfl] at hx hy hz ⊢
  simp only [] at hx hy hz ⊢
  refine ⟨⟨IntWalk.i64_in _ (by omega), IntWalk.i64_in _ (by omega), IntWalk.i64_in _ (by omega)⟩, IntWalk.i64_in _ (by omega), IntWalk.i64_in _ (by omega), IntWalk.i64_in _ (by omega)⟩
end Go.Proofs.Ytnjflafaflalfaa
