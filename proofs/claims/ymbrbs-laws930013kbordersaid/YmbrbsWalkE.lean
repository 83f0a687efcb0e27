/-
  THE WALK of zzs930013kfits (23): it reads the lengths alone.
-/
import Derived.Test.YmbrbsWalkD
namespace Go.Proofs.Ymbrbs.Kb
open Go.RowKit

/-- WHAT THE WALKS ARE TOLD OF A SLICE OF VERSIONS THAT CAME IN: where it has elements it leads to old memory, and element i's four cells lie at 4 i. -/
structure Vers (w : World) (a : Option Addr) (b off len : Nat) (V : Nat → Ver) : Prop where
  short : len ≤ maxLen
  addr : 0 < len → a = some ⟨b, off, none⟩
  old : 0 < len → b < w.heap.size
  c0 : ∀ i, i < len → w.cell? ⟨b, off + i * 4, none⟩ = some (.int .u64 (V i).major)
  c1 : ∀ i, i < len → w.cell? ⟨b, off + i * 4 + 1, none⟩ = some (.int .u64 (V i).minor)
  c2 : ∀ i, i < len → w.cell? ⟨b, off + i * 4 + 2, none⟩ = some (.int .u64 (V i).patch)
  c3 : ∀ i, i < len → w.cell? ⟨b, off + i * 4 + 3, none⟩ = some (.string (V i).pre)
  sizes : ∀ i, i < len → (V i).pre.size ≤ maxLen

theorem Vers.later {w w' : World} {a : Option Addr} {b off len : Nat} {V : Nat → Ver} (h : Vers w a b off len V) (hb : Below w.heap.size w w') : Vers w' a b off len V :=
  ⟨h.short, h.addr, fun h0 => Nat.lt_of_lt_of_le (h.old h0) hb.size,
   fun i hi => (hb.cell (p := ⟨b, off + i * 4, none⟩) (h.old (by omega))).trans (h.c0 i hi),
   fun i hi => (hb.cell (p := ⟨b, off + i * 4 + 1, none⟩) (h.old (by omega))).trans (h.c1 i hi),
   fun i hi => (hb.cell (p := ⟨b, off + i * 4 + 2, none⟩) (h.old (by omega))).trans (h.c2 i hi),
   fun i hi => (hb.cell (p := ⟨b, off + i * 4 + 3, none⟩) (h.old (by omega))).trans (h.c3 i hi), h.sizes⟩

/-- The short inputs, of which the law speaks. -/
def Fits (len : Nat) (V : Nat → Ver) (t : ByteArray) : Prop := len ≤ 1024 ∧ t.size ≤ 1024 ∧ ∀ i, i < len → (V i).pre.size ≤ 1024

/-- What the call leaves: where it answers true the input is short. -/
def FitsLeft (w : World) (len : Nat) (V : Nat → Ver) (t : ByteArray) (e : Ending) (w' : World) : Prop :=
  ∃ r : Bool, e = .returned (.bool r) ∧ (r = true → Fits len V t) ∧ Below w.heap.size w w'

set_option maxHeartbeats 800000 in
theorem fits_any (a : Option Addr) (b off len cap : Nat) (V : Nat → Ver) (b1 b2 b3 : Int) (t : ByteArray) (w : World) (hv : Vers w a b off len V) (ht : t.size ≤ maxLen) :
    Calls Ybsm.prog 23 #[.slice a len cap, .agg #[.int .u64 b1, .int .u64 b2, .int .u64 b3, .string t]] w
      (FitsLeft w len V t) := by
  have hm := hv.short
  unfold maxLen at hm ht
  have HV : Hid (Vers w a b off len V) := hv
  clear hv
  by_cases h1 : 1024 < len
  · go_enter Ybsm.func23, Ybsm.ntmps23
    go_wp2
    go_ret
    exact ⟨false, rfl, by simp, (Below.refl _ _).alloc (Nat.le_refl _) _⟩
  by_cases h2 : 1024 < t.size
  · go_enter Ybsm.func23, Ybsm.ntmps23
    go_wp2
    go_ret
    exact ⟨false, rfl, by simp, (Below.refl _ _).alloc (Nat.le_refl _) _⟩
  go_enter Ybsm.func23, Ybsm.ntmps23
  go_wp2
  go_loop [5] (fun i => ∃ k : Nat, k ≤ len ∧ i = .int .i64 k ∧ Hid (∀ i, i < k → (V i).pre.size ≤ 1024)) (fun i => len - (intOf i).toNat)
  case atStart => exact ⟨0, Nat.zero_le _, rfl, fun i hi => absurd hi (Nat.not_lt_zero _)⟩
  case round =>
    obtain ⟨k, hk, rfl, HR⟩ := hrel
    by_cases hlt : k < len
    · obtain rfl := HV.out.addr (by omega)
      have hold := HV.out.old (by omega)
      have hc := HV.out.c3 k hlt
      have hsz := HV.out.sizes k hlt
      unfold maxLen at hsz
      generalize hp : (V k).pre = p at hc hsz
      have HP : Hid ((V k).pre = p) := hp
      clear hp
      have hne : ¬ b = w.heap.size := by omega
      go_wp2
      · go_ret
        exact ⟨false, rfl, by simp, (Below.refl _ _).alloc (Nat.le_refl _) _⟩
      · go_round
        case rel =>
          refine ⟨k + 1, by omega, by go_num, fun i hi => ?_⟩
          by_cases e : i = k
          · subst e; rw [HP.out]; omega
          · exact HR.out i (by omega)
        case measure => simp [intOf]; omega
    · go_wp2
      go_ret
      exact ⟨true, rfl, fun _ => ⟨by omega, by omega, fun i hi => HR.out i (by omega)⟩, (Below.refl _ _).alloc (Nat.le_refl _) _⟩
end Go.Proofs.Ymbrbs.Kb
