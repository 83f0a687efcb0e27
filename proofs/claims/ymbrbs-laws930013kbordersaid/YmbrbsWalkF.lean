/-
  THE WALK of Search (22): whatever the order of the elements, the answer is a border.
-/
import Derived.Test.YmbrbsWalkE
namespace Go.Proofs.Ymbrbs.Kb
open Go.RowKit

/-- A BORDER: the element just before it is less than v, the one at it is not. -/
def Low (V : Nat → Ver) (v : Ver) (l : Nat) : Prop := 0 < l → cmp (V (l - 1)) v < 0
def High (len : Nat) (V : Nat → Ver) (v : Ver) (h : Nat) : Prop := h < len → ¬ cmp (V h) v < 0

/-- What Search leaves. -/
def SearchLeft (w : World) (len : Nat) (V : Nat → Ver) (v : Ver) (e : Ending) (w' : World) : Prop :=
  ∃ k : Nat, e = .returned (.int .i64 k) ∧ k ≤ len ∧ Low V v k ∧ High len V v k ∧ Below w.heap.size w w'

/-- The box of v, in whatever later world. -/
theorem box_cell {w wr : World} {C : Array Value} (hb : Below (w.heap.size + 1) (w.alloc (.cells C 31)) wr) (j : Nat) : wr.cell? ⟨w.heap.size, j, none⟩ = C[j]? :=
  (hb.cell (p := ⟨w.heap.size, j, none⟩) (Nat.lt_succ_self _)).trans (World.cell?_alloc_at _ _ _ _ rfl)

theorem box_below {w wr : World} {o : Obj} (hb : Below (w.heap.size + 1) (w.alloc o) wr) : Below w.heap.size w wr :=
  ((Below.refl _ _).alloc (Nat.le_refl _) _).trans (hb.mono (by omega))

theorem box_step {w wr w3 : World} {o : Obj} (hb : Below (w.heap.size + 1) (w.alloc o) wr) (h3 : Below wr.heap.size wr w3) : Below (w.heap.size + 1) (w.alloc o) w3 :=
  hb.trans (h3.mono (by have := hb.size; simp at this; omega))

theorem below_undrew {wr w3 : World} {n : Nat} (h : Below n wr.drew w3) : Below n wr w3 := ⟨h.os, h.tape, h.output, h.size, h.block⟩

theorem low_mid {V : Nat → Ver} {v : Ver} {x : Ver} {m : Nat} {c : Int} (hx : V m = x) (hc : c = cmp x v) (h : c < 0) : Low V v (m + 1) := fun _ => by
  rw [Nat.add_sub_cancel, hx, ← hc]; exact h
theorem high_mid {len : Nat} {V : Nat → Ver} {v : Ver} {x : Ver} {m : Nat} {c : Int} (hx : V m = x) (hc : c = cmp x v) (h : ¬ c < 0) : High len V v m := fun _ => by
  rw [hx, ← hc]; exact h

set_option maxHeartbeats 1000000 in
theorem search_any (a : Option Addr) (b off len cap : Nat) (V : Nat → Ver) (b1 b2 b3 : Int) (t : ByteArray) (w : World) (hv : Vers w a b off len V) (hf : Fits len V t) :
    Calls Ybsm.prog 22 #[.slice a len cap, .agg #[.int .u64 b1, .int .u64 b2, .int .u64 b3, .string t]] w
      (SearchLeft w len V ⟨b1, b2, b3, t⟩) := by
  have HV : Hid (Vers w a b off len V) := hv
  have HF : Hid (Fits len V t) := hf
  have hm := hf.1
  clear hv hf
  go_enter Ybsm.func22, Ybsm.ntmps22
  go_wp2
  go_loopw [5, 6] (fun lo hi wr => ∃ l h : Nat, l ≤ h ∧ h ≤ len ∧ lo = .int .i64 l ∧ hi = .int .i64 h ∧ Hid (Low V ⟨b1, b2, b3, t⟩ l) ∧ Hid (High len V ⟨b1, b2, b3, t⟩ h) ∧
      Hid (Below (w.heap.size + 1) (w.alloc (.cells #[.int .u64 b1, .int .u64 b2, .int .u64 b3, .string t] 31)) wr)) (fun lo hi _ => (intOf hi - intOf lo).toNat)
  case atStart => exact ⟨0, len, Nat.zero_le _, Nat.le_refl _, rfl, rfl, fun h => absurd h (Nat.lt_irrefl _), fun h => absurd h (Nat.lt_irrefl _), Below.refl _ _⟩
  case round =>
    obtain ⟨l, h, hlh, hh, rfl, rfl, HL, HH, HB⟩ := hrel
    by_cases hlt : l < h
    · obtain ⟨m, hme, hml, hmh⟩ : ∃ m : Nat, (l : Int) + ((h : Int) - (l : Int)) / 2 = (m : Int) ∧ l ≤ m ∧ m < h := ⟨l + (h - l) / 2, by omega, by omega, by omega⟩
      have hmn : m < len := by omega
      obtain rfl := HV.out.addr (by omega)
      have hold := HV.out.old (by omega)
      obtain ⟨x1, x2, x3, xs, hx⟩ : ∃ x1 x2 x3 xs, V m = ⟨x1, x2, x3, xs⟩ := ⟨_, _, _, _, rfl⟩
      have hvr := HV.out.later (box_below HB.out)
      have q0 := hvr.c0 m hmn
      have q1 := hvr.c1 m hmn
      have q2 := hvr.c2 m hmn
      have q3 := hvr.c3 m hmn
      have hxs := HF.out.2.2 m hmn
      rw [hx] at q0 q1 q2 q3 hxs
      dsimp only at q0 q1 q2 q3 hxs
      have r0 : wr.cell? ⟨w.heap.size, 0, none⟩ = some (.int .u64 b1) := box_cell HB.out 0
      have r1 : wr.cell? ⟨w.heap.size, 1, none⟩ = some (.int .u64 b2) := box_cell HB.out 1
      have r2 : wr.cell? ⟨w.heap.size, 2, none⟩ = some (.int .u64 b3) := box_cell HB.out 2
      have r3 : wr.cell? ⟨w.heap.size, 3, none⟩ = some (.string t) := box_cell HB.out 3
      have HX : Hid (V m = ⟨x1, x2, x3, xs⟩) := hx
      obtain ⟨c, hc⟩ : ∃ c, c = cmp ⟨x1, x2, x3, xs⟩ ⟨b1, b2, b3, t⟩ := ⟨_, rfl⟩
      have CI : Hid (∀ wx, Calls Ybsm.prog 24 #[.agg #[.int .u64 x1, .int .u64 x2, .int .u64 x3, .string xs], .agg #[.int .u64 b1, .int .u64 b2, .int .u64 b3, .string t]] wx fun e w' => e = .returned (.int .i64 c) ∧ Below wx.heap.size wx w') := fun wx => by
        rw [hc]; exact cmp_any x1 x2 x3 b1 b2 b3 xs t wx hxs HF.out.2.1
      have HC : Hid (c = cmp ⟨x1, x2, x3, xs⟩ ⟨b1, b2, b3, t⟩) := hc
      have j1 : (m : Int) < (len : Int) := by omega
      clear hc hx hvr hxs
      go_wp2_with fail
      go_region_with (go_at_call 24; refine (CI.out _).mono ?_; rintro e w3 ⟨rfl, hb3⟩)
      all_goals
        have HB3 : Hid (Below wr.heap.size wr w3) := below_undrew hb3
        clear hb3
        by_cases hc0 : c < 0
        · have HL' : Hid (Low V ⟨b1, b2, b3, t⟩ (m + 1)) := low_mid HX.out HC.out hc0
          go_wp2
          go_roundw
          case rel => exact ⟨m + 1, h, by omega, by omega, by go_num, rfl, HL'.out, HH.out, box_step HB.out HB3.out⟩
          case measure => simp [intOf]; omega
        · have HH' : Hid (High len V ⟨b1, b2, b3, t⟩ m) := high_mid HX.out HC.out hc0
          go_wp2
          go_roundw
          case rel => exact ⟨l, m, by omega, by omega, rfl, rfl, HL.out, HH'.out, box_step HB.out HB3.out⟩
          case measure => simp [intOf]; omega
    · have HE : Hid (l = h) := by show l = h; omega
      go_wp2
      go_ret
      refine ⟨l, rfl, by omega, HL.out, ?_, box_below HB.out⟩
      rw [HE.out]; exact HH.out
end Go.Proofs.Ymbrbs.Kb
