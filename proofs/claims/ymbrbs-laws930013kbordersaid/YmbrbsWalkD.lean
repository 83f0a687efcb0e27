/-
  THE WALK of Compare (24): two structs by value, each boxed.
-/
import Derived.Test.YmbrbsWalkC
namespace Go.Proofs.Ymbrbs.Kb
open Go.RowKit

theorem cmp_of {x y : Ver} {c : Int} (h : cmp x y = c) : Ending.returned (.int .i64 c) = .returned (.int .i64 (cmp x y)) := by rw [h]

section
variable {a1 a2 a3 b1 b2 b3 : Int} {s t : ByteArray}
theorem cw1 (h : (a1 != b1) = true) (h' : a1 < b1) : cmp ⟨a1, a2, a3, s⟩ ⟨b1, b2, b3, t⟩ = -1 := by simp at h; simp [cmp, h, h']
theorem cw2 (h : (a1 != b1) = true) (h' : b1 ≤ a1) : cmp ⟨a1, a2, a3, s⟩ ⟨b1, b2, b3, t⟩ = 1 := by simp at h; simp [cmp, h, Int.not_lt.2 h']
theorem cw3 (k : (a1 != b1) = false) (h : (a2 != b2) = true) (h' : a2 < b2) : cmp ⟨a1, a2, a3, s⟩ ⟨b1, b2, b3, t⟩ = -1 := by simp at h k; simp [cmp, h, h', k]
theorem cw4 (k : (a1 != b1) = false) (h : (a2 != b2) = true) (h' : b2 ≤ a2) : cmp ⟨a1, a2, a3, s⟩ ⟨b1, b2, b3, t⟩ = 1 := by simp at h k; simp [cmp, h, Int.not_lt.2 h', k]
theorem cw5 (k : (a1 != b1) = false) (l : (a2 != b2) = false) (h : (a3 != b3) = true) (h' : a3 < b3) : cmp ⟨a1, a2, a3, s⟩ ⟨b1, b2, b3, t⟩ = -1 := by simp at h k l; simp [cmp, h, h', k, l]
theorem cw6 (k : (a1 != b1) = false) (l : (a2 != b2) = false) (h : (a3 != b3) = true) (h' : b3 ≤ a3) : cmp ⟨a1, a2, a3, s⟩ ⟨b1, b2, b3, t⟩ = 1 := by simp at h k l; simp [cmp, h, Int.not_lt.2 h', k, l]
theorem cw7 (k : (a1 != b1) = false) (l : (a2 != b2) = false) (h : (a3 != b3) = false) : cmp ⟨a1, a2, a3, s⟩ ⟨b1, b2, b3, t⟩ = cmpPre s t := by simp at h k l; simp [cmp, h, k, l]
end

set_option maxHeartbeats 1000000 in
theorem cmp_any (a1 a2 a3 b1 b2 b3 : Int) (s t : ByteArray) (w : World) (hs : s.size ≤ 1024) (ht : t.size ≤ 1024) :
    Calls Ybsm.prog 24 #[.agg #[.int .u64 a1, .int .u64 a2, .int .u64 a3, .string s], .agg #[.int .u64 b1, .int .u64 b2, .int .u64 b3, .string t]] w
      fun e w' => e = .returned (.int .i64 (cmp ⟨a1, a2, a3, s⟩ ⟨b1, b2, b3, t⟩)) ∧ Below w.heap.size w w' := by
  have CP : Hid (∀ wx, Calls Ybsm.prog 32 #[.string s, .string t] wx _) := fun wx => cmpPre_any s t wx hs ht
  go_enter Ybsm.func24, Ybsm.ntmps24
  go_wp2_with (go_at_call 32; refine (CP.out _).mono ?_; rintro e w' ⟨rfl, hb⟩)
  · go_ret
    exact ⟨cmp_of (cw1 ‹_› ‹_›), ((Below.refl _ _).alloc (Nat.le_refl _) _).alloc (by simp) _⟩
  · go_ret
    exact ⟨cmp_of (cw2 ‹_› ‹_›), ((Below.refl _ _).alloc (Nat.le_refl _) _).alloc (by simp) _⟩
  · go_ret
    exact ⟨cmp_of (cw3 ‹_› ‹_› ‹_›), ((Below.refl _ _).alloc (Nat.le_refl _) _).alloc (by simp) _⟩
  · go_ret
    exact ⟨cmp_of (cw4 ‹_› ‹_› ‹_›), ((Below.refl _ _).alloc (Nat.le_refl _) _).alloc (by simp) _⟩
  · go_ret
    exact ⟨cmp_of (cw5 ‹_› ‹_› ‹_› ‹_›), ((Below.refl _ _).alloc (Nat.le_refl _) _).alloc (by simp) _⟩
  · go_ret
    exact ⟨cmp_of (cw6 ‹_› ‹_› ‹_› ‹_›), ((Below.refl _ _).alloc (Nat.le_refl _) _).alloc (by simp) _⟩
  · go_ret
    exact ⟨cmp_of (cw7 ‹_› ‹_› ‹_›), (((Below.refl _ _).alloc (Nat.le_refl _) _).alloc (by simp) _).trans (hb.mono (by simp; omega))⟩
end Go.Proofs.Ymbrbs.Kb
