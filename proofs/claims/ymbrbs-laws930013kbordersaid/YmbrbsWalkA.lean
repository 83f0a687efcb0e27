/-
  THE WALKS of IsNumeric (27) and CompareIdent (33): they only compute.
-/
import Derived.Test.YmbrbsChecked
import Derived.Test.YmbrbsPlain
import Derived.WalkKit
import Derived.WalkSpells
import Derived.WalkLawsBesides
import Derived.KernelRfl
import Derived.Deep.RegionWith
namespace Go.Proofs.Ymbrbs.Kb
open Go.RowKit

theorem ret_bool {a b : Bool} (h : a = b) : Ending.returned (.bool a) = .returned (.bool b) := by rw [h]
theorem ret_int {k : IntKind} {a b : Int} (h : a = b) : Ending.returned (.int k a) = .returned (.int k b) := by rw [h]

theorem take_snoc (s : ByteArray) (k : Nat) (h : k < s.size) : s.data.toList.take (k + 1) = s.data.toList.take k ++ [s[k]] := by
  rw [List.take_succ_eq_append_getElem (by simpa using h)]; rfl

theorem all_snoc (l : List UInt8) (c : UInt8) : (l ++ [c]).all digB = (l.all digB && digB c) := by simp

theorem not_num {s : ByteArray} {k : Nat} (h : k < s.size) (hd : digB s[k] = false) : isNum s = false := by
  have hm : s[k] ∈ s.data.toList := List.getElem_mem (by simpa using h)
  have : s.data.toList.all digB = false := by
    rw [List.all_eq_false]
    exact ⟨_, hm, by simp [hd]⟩
  simp [isNum, this]

set_option maxHeartbeats 400000 in
theorem isNum_any (s : ByteArray) (w : World) (hs : s.size ≤ maxLen) :
    Calls Ybsm.prog 27 #[.string s] w fun e w' => e = .returned (.bool (isNum s)) ∧ w = w' := by
  unfold maxLen at hs
  go_enter Ybsm.func27, Ybsm.ntmps27
  go_wp2
  go_loop [3] (fun i => ∃ k : Nat, k ≤ s.size ∧ i = .int .i64 k ∧ Hid ((s.data.toList.take k).all digB = true)) (fun i => s.size - (intOf i).toNat)
  case atStart => exact ⟨0, Nat.zero_le _, rfl, rfl⟩
  case round =>
    obtain ⟨k, hk, rfl, hrel⟩ := hrel
    by_cases hlt : k < s.size
    · have HN : Hid (¬ (48 ≤ (s[k].toNat : Int) ∧ (s[k].toNat : Int) ≤ 57) → isNum s = false) := fun h => not_num hlt (by simp [digB]; omega)
      have HY : Hid (48 ≤ (s[k].toNat : Int) ∧ (s[k].toNat : Int) ≤ 57 → (s.data.toList.take (k + 1)).all digB = true) := fun h => by
        rw [take_snoc s k hlt, all_snoc, hrel.out]; simp [digB]; omega
      go_wp2
      · go_ret
        exact ⟨ret_bool (HN.out (by omega)).symm, rfl⟩
      · go_round
        case rel => exact ⟨k + 1, by omega, by go_num, HY.out (by omega)⟩
        case measure => simp [intOf]; omega
      · go_ret
        exact ⟨ret_bool (HN.out (by omega)).symm, rfl⟩
    · have HE : Hid (isNum s = decide (0 < s.size)) := by
        have h := hrel.out
        rw [List.take_of_length_le (by simp; omega)] at h
        show isNum s = _
        simp [isNum, h]
      go_wp2
      go_ret
      exact ⟨ret_bool (by rw [HE.out]), rfl⟩

theorem cmpId_of {a b : ByteArray} {c : Int} (h : cmpId a b = c) : Ending.returned (.int .i64 c) = .returned (.int .i64 (cmpId a b)) := by rw [h]

set_option maxHeartbeats 800000 in
theorem cmpId_any (a b : ByteArray) (w : World) (ha : a.size ≤ maxLen) (hb : b.size ≤ maxLen) :
    Calls Ybsm.prog 33 #[.string a, .string b] w fun e w' => e = .returned (.int .i64 (cmpId a b)) ∧ w = w' := by
  have ca := isNum_any a w ha
  have cb := isNum_any b w hb
  cases na : isNum a <;> cases nb : isNum b <;> rw [na] at ca <;> rw [nb] at cb
  all_goals
    have HA : Hid (isNum a = _) := na
    have HB : Hid (isNum b = _) := nb
    clear na nb
    go_enter Ybsm.func33, Ybsm.ntmps33
    go_wp2_with (first | (go_at_call_of 27 a; refine ca.mono ?_; rintro e w' ⟨rfl, rfl⟩) | (go_at_call_of 27 b; refine cb.mono ?_; rintro e w' ⟨rfl, rfl⟩))
    all_goals
      go_ret
      refine ⟨cmpId_of ?_, rfl⟩
      have h1 := HA.out
      have h2 := HB.out
      simp only [cmpId, idLess, h1, h2]
      simp [*]
end Go.Proofs.Ymbrbs.Kb
