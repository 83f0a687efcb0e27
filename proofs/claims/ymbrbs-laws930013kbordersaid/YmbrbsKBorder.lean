/-
  'Rows.LawS930013KBorderSaid' ('semver.LawS930013KBorder'): the frame after the guide's shell for a law over slices, at this function's number and types; the walk: YmbrbsWalkG.
-/
import Derived.Test.YmbrbsRows
import Derived.Test.YmbrbsWalkG
import Derived.ProofKit
import Derived.ShutString
import Derived.ChangeOld
import Derived.Below
import Derived.Deep.Slices
namespace Go.Proofs.Ymbrbs.lawS930013KBorder
open Go.ChangeShapes Go.WideShapes Go.ChangeAt Go.RowKit
open Go.Proofs.Ymbrbs.Kb
set_option linter.unusedVariables false

theorem own : ownKnob Ybsm.prog.godebug = none := by kernel_rfl
theorem laidOut : laidOutB Ybsm.prog = true := by kernel_rfl
theorem cells31 : Ybsm.prog.cellsOf 31 = 4 := by kernel_rfl
theorem cells22 : Ybsm.prog.cellsOf 22 = 1 := by kernel_rfl
theorem cells9 : Ybsm.prog.cellsOf 9 = 1 := by kernel_rfl

section
variable {H : Type} {enc : TypeId × Value → H} {w : World} {base : Nat} {spare : Nat → Bool} {held : Bool}

/-- A VERSION's four cells. -/
theorem ver_open {fuel : Nat} {cs : List Value} {x : DataW H × List MemPlace} (h : DataW.trod enc Ybsm.prog w base spare held fuel 31 cs = some x) :
    ∃ x1 x2 x3 s, cs = [.int .u64 x1, .int .u64 x2, .int .u64 x3, .string s] ∧ s.size ≤ maxLen := by
  obtain ⟨xs, n, _, _, hl, hlen, hf⟩ := DataW.trod_struct Ybsm.underlying31 h
  rw [cells31] at hl
  match cs, hl with
  | [c0, c1, c2, c3], _ =>
    match xs, hlen with
    | [y0, y1, y2, y3], _ =>
      have g0 := hf 0 _ rfl
      have g1 := hf 1 _ rfl
      have g2 := hf 2 _ rfl
      have g3 := hf 3 _ rfl
      simp [cells22, cells9] at g0 g1 g2 g3
      obtain ⟨x1, e1, _, _⟩ := DataW.trod_int Ybsm.underlying22 g0
      obtain ⟨x2, e2, _, _⟩ := DataW.trod_int Ybsm.underlying22 g1
      obtain ⟨x3, e3, _, _⟩ := DataW.trod_int Ybsm.underlying22 g2
      obtain ⟨s, e4, _, hs⟩ := DataW.trod_string Ybsm.underlying9 g3
      simp at e1 e2 e3 e4
      subst e1 e2 e3 e4
      exact ⟨x1, x2, x3, s, rfl, hs⟩

theorem add_none (b off n : Nat) : (⟨b, off, none⟩ : Addr).add n = ⟨b, off + n, none⟩ := by
  unfold Addr.add
  split
  · subst_vars; rfl
  · rfl

/-- A SLICE OF VERSIONS that came in, as the walks are told of it. -/
theorem vers_open {a : Option Addr} {len cap : Nat} {d : DataW H} {p : List MemPlace} (h : DataW.Trod enc Ybsm.prog w 0 (fun _ => true) true 40 (.slice a len cap) d p) :
    ∃ b off V, Vers w a b off len V := by
  obtain ⟨fuel, hf⟩ := h
  rcases Deep.open_slice Ybsm.underlying40 hf with ⟨hcs, _⟩ | ⟨x, l, c, m, n, D, Pl, hcs, _, hl, hm, hmm, _, hx⟩
  · simp [Value.cells] at hcs
    obtain ⟨rfl, rfl, rfl⟩ := hcs
    exact ⟨0, 0, fun _ => ⟨0, 0, 0, ByteArray.empty⟩, ⟨Nat.zero_le _, by omega, by omega, by omega, by omega, by omega, by omega, by omega⟩⟩
  · simp [Value.cells] at hcs
    obtain ⟨rfl, rfl, rfl⟩ := hcs
    simp only [if_true] at hmm
    subst hmm
    rw [cells31] at hx
    obtain ⟨b, off, spot⟩ := x
    by_cases h0 : len = 0
    · subst h0
      exact ⟨0, 0, fun _ => ⟨0, 0, 0, ByteArray.empty⟩, ⟨Nat.zero_le _, by omega, by omega, by omega, by omega, by omega, by omega, by omega⟩⟩
    · have hspot : spot = none := by
        obtain ⟨cs', h1, h2⟩ := hx 0 (by omega)
        obtain ⟨x1, x2, x3, s, rfl, _⟩ := ver_open h2
        have hc := (World.cells?_some h1).2.2 0 (by omega)
        simp [Addr.add] at hc
        exact World.cell?_spot hc
      subst hspot
      have key : ∀ i, i < len → ∃ y : Int × Int × Int × ByteArray, w.cell? ⟨b, off + i * 4, none⟩ = some (.int .u64 y.1) ∧ w.cell? ⟨b, off + i * 4 + 1, none⟩ = some (.int .u64 y.2.1) ∧
          w.cell? ⟨b, off + i * 4 + 2, none⟩ = some (.int .u64 y.2.2.1) ∧ w.cell? ⟨b, off + i * 4 + 3, none⟩ = some (.string y.2.2.2) ∧ y.2.2.2.size ≤ maxLen := fun i hi => by
        obtain ⟨cs', h1, h2⟩ := hx i (by omega)
        obtain ⟨x1, x2, x3, s, rfl, hs⟩ := ver_open h2
        have hc := (World.cells?_some h1).2.2
        rw [add_none] at hc
        have k0 := hc 0 (by omega)
        have k1 := hc 1 (by omega)
        have k2 := hc 2 (by omega)
        have k3 := hc 3 (by omega)
        rw [add_none] at k0 k1 k2 k3
        exact ⟨(x1, x2, x3, s), k0, k1, k2, k3, hs⟩
      obtain ⟨f, hfs⟩ := Deep.choose_lt key
      refine ⟨b, off, fun i => ⟨(f i).1, (f i).2.1, (f i).2.2.1, (f i).2.2.2⟩, ⟨by omega, fun _ => rfl, fun h => ?_, fun i hi => (hfs i hi).1, fun i hi => (hfs i hi).2.1, fun i hi => (hfs i hi).2.2.1, fun i hi => (hfs i hi).2.2.2.1, fun i hi => (hfs i hi).2.2.2.2⟩⟩
      exact World.block_lt_of_cell? _ _ (hfs 0 h).1
end

/-! ### THE ROW's STEP -/
set_option maxRecDepth 100000 in
theorem lifted (os : Os) (started : os.Started) (H : Type) (enc : TypeId × Value → H) :
    ReturnsInHanded {} Ybsm.checked os 9 .any (Rows.lawS930013KBorderSpec.pre6 enc Ybsm.prog Ybsm.f9 Rows.lawS930013KBorderRow.domain false) (Rows.lawS930013KBorderSpec.post enc Ybsm.prog Ybsm.f9 false true false false) := by
  refine returnsInHanded_of_change (C := Ybsm.checked) own started (by kernel_rfl) Ybsm.func9
    (ChangeSpec.witness6 (enc := enc) (C := Ybsm.checked) false ⟨#[], #[.slice none 0 0, .agg #[.int .u64 0, .int .u64 0, .int .u64 0, .string ByteArray.empty]], []⟩ 8 (by kernel_rfl) (by kernel_rfl) (by kernel_rfl) (by kernel_rfl)) ?_
  intro W base args ds gs before hval0 hW hcnd _
  have hval : ∀ (j : Nat) t v, Ybsm.f9.params[j]? = some t → args[j]? = some v → Value.okWide Ybsm.prog W .any base t v := hval0
  have hW' := hW
  obtain ⟨p, q, hA0, hV, rfl, hfz, hnd⟩ := hW
  have hA : DataW.TrodAll enc Ybsm.prog W 0 (fun _ => true) true Ybsm.f9.params.toList args.toList ds p := hA0
  rw [Ybsm.params9] at hA hval
  obtain ⟨v0, vs0, d0, ds0, p0, q0, hargs, rfl, rfl, h0, r0⟩ := trodAll_cons hA
  obtain ⟨v1, vs1, d1, ds1, p1, q1, rfl, rfl, rfl, h1, r1⟩ := trodAll_cons r0
  obtain ⟨rfl, rfl, rfl⟩ := trodAll_nil r1
  obtain rfl : args = #[v0, v1] := by cases args; simp_all
  obtain ⟨rfl, rfl⟩ := trodVars_none hV
  obtain ⟨a0, len0, cap0, rfl⟩ := okWide_slice Ybsm.underlying40 (hval 0 40 v0 rfl rfl)
  obtain ⟨cs1, rfl, hcs1⟩ := okWide_struct Ybsm.underlying31 (hval 1 31 v1 rfl rfl)
  have k0 := h0
  have k1 := h1
  have lt0 : ∀ x ∈ p0, x.block < W.heap.size := by obtain ⟨m, hm⟩ := k0; exact DataW.trod_lt m _ _ _ hm
  have lt1 : ∀ x ∈ p1, x.block < W.heap.size := by obtain ⟨m, hm⟩ := k1; exact DataW.trod_lt m _ _ _ hm
  obtain ⟨b, off, V, hv⟩ := vers_open h0
  obtain ⟨x1, x2, x3, s, hcs, hs⟩ : ∃ x1 x2 x3 s, cs1 = #[.int .u64 x1, .int .u64 x2, .int .u64 x3, .string s] ∧ s.size ≤ maxLen := by
    obtain ⟨fuel, hf⟩ := h1
    obtain ⟨x1, x2, x3, s, hc, hs⟩ := ver_open hf
    exact ⟨x1, x2, x3, s, by simpa [Value.cells] using congrArg List.toArray hc, hs⟩
  subst hcs
  clear hA0 hval0
  refine (law_any a0 b off len0 cap0 V x1 x2 x3 s W hv hs).mono fun e W' ⟨he, bel⟩ => ?_
  subst he
  exact ⟨_, rfl, _, _, _, [], _, [], hW', trodAll_mk1 (shut_bool Ybsm.underlying4 _), (trodAll_mk2 (Below.trod laidOut (by kernel_rfl) (of_decide_eq_true (by kernel_rfl)) k0 bel lt0) (Below.trod laidOut (by kernel_rfl) (of_decide_eq_true (by kernel_rfl)) k1 bel lt1)), rfl, bel.frame _, fun h => by cases h⟩

theorem over : Rows.lawS930013KBorderRow.holds Ybsm.pinned (OpenSpec.ofChange Rows.lawS930013KBorderSpec) :=
  OpenClaim.holds_of_wide 9 Ybsm.f9 rfl rfl rfl rfl rfl rfl rfl ⟨rfl, rfl, rfl, rfl, rfl⟩ rfl rfl rfl rfl rfl (by kernel_rfl) Ybsm.func9 (by kernel_rfl)
    (of_decide_eq_true (by kernel_rfl)) (by unfold Func.isWrapper; first | (rw [if_pos (by decide +kernel)]; kernel_rfl) | (rw [if_neg (by decide +kernel)]; exact ⟨rfl, rfl⟩))
    (fun os started H enc _ => lifted os started H enc)

end Go.Proofs.Ymbrbs.lawS930013KBorder

namespace Go.Proofs.Ymbrbs
/-- THE STATEMENT. -/
theorem lawS930013KBorder_holds : Rows.LawS930013KBorderSaid := lawS930013KBorder.over
end Go.Proofs.Ymbrbs
