/-
  THE WALK of SplitDots (29): it makes a row of strings of its own.
-/
import Derived.Test.YmbrbsWalkA
import Derived.Carry
namespace Go.Proofs.Ymbrbs.Kb
open Go.RowKit

theorem info9 : (Ybsm.prog.info? 9).map (fun i => (i.zero, i.size, i.bytes)) = some (some (.string ByteArray.empty), 1, 16) := by kernel_rfl

theorem byteAt_eq {s : ByteArray} {k : Nat} (h : k < s.size) : byteAt s k = s[k] := by
  unfold byteAt
  rw [List.getD_eq_getElem?_getD, List.getElem?_eq_getElem (by simpa using h)]; rfl

/-- What the loop's state says, as a bundle kept from the walk. -/
theorem sp_next_dot {s : ByteArray} {k st : Nat} {ps : List ByteArray} (h : sp s k = (ps, st)) (hd : byteAt s k = 46) : sp s (k + 1) = (ps ++ [s.extract st k], k + 1) := by rw [sp_dot s k hd, h]
theorem sp_next_not {s : ByteArray} {k st : Nat} {ps : List ByteArray} (h : sp s k = (ps, st)) (hd : ¬ byteAt s k = 46) : sp s (k + 1) = (ps, st) := by rw [sp_not s k hd, h]

set_option maxHeartbeats 400000 in
theorem split_any (s : ByteArray) (w : World) (hs : s.size ≤ 1024) :
    Calls Ybsm.prog 29 #[.string s] w fun e w' => ∃ v, e = .returned v ∧ w'.ownsRow w.heap.size 9 1 v (split s).length ((split s).map Value.string) ∧ Below w.heap.size w w' := by
  obtain ⟨i0, hi, hz0, hz1, hz2⟩ := info_parts info9
  go_enter Ybsm.func29, Ybsm.ntmps29
  go_wp2
  go_loopw [3, 4, 5] (fun v b i wr => ∃ (k st : Nat) (ps : List ByteArray), k ≤ s.size ∧ st ≤ k ∧ ps.length ≤ k ∧ i = .int .i64 k ∧ b = .int .i64 st ∧ Hid (sp s k = (ps, st)) ∧ wr.ownsRow w.heap.size 9 1 v ps.length (ps.map Value.string) ∧ Below w.heap.size w wr)
    (fun _ _ i _ => s.size - (intOf i).toNat)
  case atStart => exact ⟨0, 0, [], Nat.zero_le _, Nat.le_refl _, Nat.le_refl _, rfl, rfl, rfl, World.ownsRow_nil _ _ _ _, Below.refl _ _⟩
  case round =>
    obtain ⟨k, st, ps, hk, hst, hpl, rfl, rfl, HS, hown, hbel⟩ := hrel
    by_cases hlt : k < s.size
    · by_cases hd : byteAt s k = 46
      · have HN : Hid (sp s (k + 1) = (ps ++ [s.extract st k], k + 1)) := sp_next_dot HS.out hd
        have hc : ((s[k].toNat : Int) == 46) = true := by rw [byteAt_eq hlt] at hd; rw [hd]; rfl
        clear hd HS
        go_wp2_with (first | (at_builtin; refine wpList_append_own _ rfl _ _ 51 rfl w.heap.size 9 i0 (.string ByteArray.empty) 1 16 Ybsm.underlying51 hi hz0 hz1 hz2 rfl (by decide) _ _ _ rfl (hown.alloc _) ⟨wr.heap.size, 0, none⟩ 1 1 [.string (s.extract st k)] rfl rfl (cell_one_new _ _ _) (fun x hx => by simp at hx; subst hx; rfl) (by unfold maxLen; omega) (by omega) (by have := hbel.size; simp; omega) ?_; intro v' w3 hown' hgrow3 hnil3))
        go_roundw
        case rel =>
          refine ⟨k + 1, k + 1, ps ++ [s.extract st k], by omega, by omega, by simp; omega, by go_num, by go_num, HN.out, ?_, (hbel.alloc hbel.size _).grown hgrow3 (by have := hbel.size; simp; omega) (fun q hq => (hown.lt q hq).1)⟩
          rw [List.map_append, List.length_append]
          exact hown'
        case measure => simp [intOf]; omega
      · have HN : Hid (sp s (k + 1) = (ps, st)) := sp_next_not HS.out hd
        have hc : ((s[k].toNat : Int) == 46) = false := by
          rw [byteAt_eq hlt] at hd
          simp only [beq_eq_false_iff_ne, ne_eq]
          intro e; apply hd; apply UInt8.toNat_inj.1; simp; omega
        clear hd HS
        go_wp2
        go_roundw
        case rel => exact ⟨k + 1, st, ps, by omega, by omega, by omega, by go_num, rfl, HN.out, hown, hbel⟩
        case measure => simp [intOf]; omega
    · have HE : Hid (split s = ps ++ [s.extract st s.size]) := by
        have h := HS.out
        rw [show k = s.size by omega] at h
        show split s = _
        simp [split, h]
      clear HS
      go_wp2_with (first | (at_builtin; refine wpList_append_own _ rfl _ _ 51 rfl w.heap.size 9 i0 (.string ByteArray.empty) 1 16 Ybsm.underlying51 hi hz0 hz1 hz2 rfl (by decide) _ _ _ rfl (hown.alloc _) ⟨wr.heap.size, 0, none⟩ 1 1 [.string (s.extract st s.size)] rfl rfl (cell_one_new _ _ _) (fun x hx => by simp at hx; subst hx; rfl) (by unfold maxLen; omega) (by omega) (by have := hbel.size; simp; omega) ?_; intro v' w3 hown' hgrow3 hnil3))
      go_ret
      refine ⟨v', rfl, ?_, (hbel.alloc hbel.size _).grown hgrow3 (by have := hbel.size; simp; omega) (fun q hq => (hown.lt q hq).1)⟩
      rw [HE.out, List.map_append, List.length_append]
      exact hown'

end Go.Proofs.Ymbrbs.Kb
