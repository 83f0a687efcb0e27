/-
  THE WALK of ComparePre (32): it calls SplitDots twice, then compares piece by piece.
-/
import Derived.Test.YmbrbsWalkB
import Derived.Deep.QuietTactic
import Derived.BigQuiet
import Derived.WalkSmall
namespace Go.Proofs.Ymbrbs.Kb
open Go.RowKit

theorem split_pos (s : ByteArray) : 0 < (split s).length := by simp [split]

/-- SplitDots' contract as its callers read it: the pieces' cells. -/
theorem split_c (s : ByteArray) (w : World) (hs : s.size ≤ 1024) :
    Calls Ybsm.prog 29 #[.string s] w fun e w' => ∃ g cap, e = .returned (.slice (some ⟨g, 0, none⟩) (split s).length cap) ∧ g < w'.heap.size ∧ Hid (∀ j t, (split s)[j]? = some t → w'.cell? ⟨g, j, none⟩ = some (.string t)) ∧ Below w.heap.size w w' := by
  refine (split_any s w hs).mono ?_
  rintro e w' ⟨v, rfl, hown, hbel⟩
  have hpos := split_pos s
  have hv : ∃ g cap, v = .slice (some ⟨g, 0, none⟩) (split s).length cap := by
    rcases hown.2 with ⟨_, h0⟩ | ⟨g, cap, cur, hv, _⟩
    · omega
    · exact ⟨g, cap, hv⟩
  obtain ⟨g, cap, rfl⟩ := hv
  refine ⟨g, cap, rfl, (hown.lt g rfl).2, fun j t ht => ?_, hbel⟩
  have := hown.cells (g := g) rfl j (.string t) (by rw [List.getElem?_map, ht]; rfl)
  by_cases h0 : j = 0
  · subst h0; simpa [Addr.add] using this
  · simpa [Addr.add, h0] using this

theorem cmpId_q (a b : ByteArray) (w : World) (ha : a.size ≤ maxLen) (hb : b.size ≤ maxLen) :
    Calls Ybsm.prog 33 #[.string a, .string b] w fun e w' => e = .returned (.int .i64 (cmpId a b)) ∧ w' = w :=
  (cmpId_any a b w ha hb).mono fun _ _ ⟨h, h'⟩ => ⟨h, h'.symm⟩

set_option maxHeartbeats 800000 in
theorem cmpPre_rest (a b : ByteArray) (w : World) (ha : a.size ≤ 1024) (hb : b.size ≤ 1024)
    (h1 : (a.toList == b.toList) = false) (h2 : a.toList.isEmpty = false) (h3 : b.toList.isEmpty = false) :
    Calls Ybsm.prog 32 #[.string a, .string b] w fun e w' => e = .returned (.int .i64 (cmpL (split a) (split b))) ∧ Below w.heap.size w w' := by
  have hla := split_len a
  have hlb := split_len b
  have HSa : Hid (∀ t ∈ split a, t.size ≤ maxLen) := fun t ht => by have := split_size ht; unfold maxLen; omega
  have HSb : Hid (∀ t ∈ split b, t.size ≤ maxLen) := fun t ht => by have := split_size ht; unfold maxLen; omega
  have ca : ∀ wx, Calls Ybsm.prog 29 #[.string a] wx _ := fun wx => split_c a wx ha
  have cb : ∀ wx, Calls Ybsm.prog 29 #[.string b] wx _ := fun wx => split_c b wx hb
  generalize split a = pa at *
  generalize split b = pb at *
  have CA : Hid _ := ca
  have CB : Hid _ := cb
  clear ca cb
  go_enter Ybsm.func32, Ybsm.ntmps32
  go_wp2_with fail
  refine (CA.out _).mono ?_
  rintro e w1 ⟨g1, cap1, rfl, hg1, hc1, hb1⟩
  go_wp2_with fail
  refine (CB.out _).mono ?_
  rintro e w2 ⟨g2, cap2, rfl, hg2, hc2, hb2⟩
  have HC1 : Hid (∀ j t, pa[j]? = some t → w2.cell? ⟨g1, j, none⟩ = some (.string t)) := fun j t ht => (hb2.cell (p := ⟨g1, j, none⟩) hg1).trans (hc1.out j t ht)
  have hg1' : g1 < w2.heap.size := Nat.lt_of_lt_of_le hg1 hb2.size
  have HB : Hid (Below w.heap.size w w2) := hb1.trans (hb2.mono hb1.size)
  clear hc1 hb1 hb2 hg1
  go_wp2_with fail
  go_loopw [7] (fun i wr => ∃ k : Nat, k ≤ pa.length ∧ k ≤ pb.length ∧ i = .int .i64 k ∧ Hid (cmpL (pa.drop k) (pb.drop k) = cmpL pa pb) ∧ Hid (Below w2.heap.size w2 wr)) (fun i _ => pa.length - (intOf i).toNat)
  case atStart => exact ⟨0, Nat.zero_le _, Nat.zero_le _, rfl, rfl, Below.refl _ _⟩
  case round =>
    obtain ⟨k, hka, hkb, rfl, HR, hbw⟩ := hrel
    by_cases hlt : k < pa.length ∧ k < pb.length
    · obtain ⟨hl1, hl2⟩ := hlt
      obtain ⟨a0, hA0⟩ : ∃ t, pa[k]? = some t := ⟨_, List.getElem?_eq_getElem hl1⟩
      obtain ⟨b0, hB0⟩ : ∃ t, pb[k]? = some t := ⟨_, List.getElem?_eq_getElem hl2⟩
      have HST : Hid (cmpL (pa.drop k) (pb.drop k) = if cmpId a0 b0 = 0 then cmpL (pa.drop (k + 1)) (pb.drop (k + 1)) else cmpId a0 b0) := cmpL_step hA0 hB0
      have ka := HSa.out a0 (List.mem_of_getElem? hA0)
      have kb := HSb.out b0 (List.mem_of_getElem? hB0)
      have q1 : wr.cell? ⟨g1, k, none⟩ = some (.string a0) := (hbw.out.cell (p := ⟨g1, k, none⟩) hg1').trans (HC1.out k a0 hA0)
      have q2 : wr.cell? ⟨g2, k, none⟩ = some (.string b0) := (hbw.out.cell (p := ⟨g2, k, none⟩) hg2).trans (hc2.out k b0 hB0)
      have j1 : (k : Int) < (pa.length : Int) := by omega
      have j2 : (k : Int) < (pb.length : Int) := by omega
      have CI : Hid (∀ wx, Calls Ybsm.prog 33 #[.string a0, .string b0] wx fun e w' => e = .returned (.int .i64 (cmpId a0 b0)) ∧ w' = wx) := fun wx => cmpId_q a0 b0 wx ka kb
      clear ka kb hA0 hB0
      generalize cmpId a0 b0 = c at *
      go_wp2_with fail
      go_quiet ((go_at_call 33; exact Calls.quiet_of_same (CI.out _)))
      go_wp2
      · go_ret
        have hne : ¬ c = 0 := by simpa using ‹(c != 0) = true›
        exact ⟨ret_int (by rw [← HR.out, HST.out, if_neg hne]), HB.out.trans ((below_drewN hbw.out nq).mono HB.out.size)⟩
      · have hz : c = 0 := by simpa using ‹(c != 0) = false›
        have HK : Hid (cmpL (pa.drop (k + 1)) (pb.drop (k + 1)) = cmpL pa pb) := by rw [← HR.out, HST.out, if_pos hz]; rfl
        go_roundw
        case rel => exact ⟨k + 1, by omega, by omega, by go_num, HK.out, below_drewN hbw.out nq⟩
        case measure => simp [intOf]; omega
    · have HE : Hid (cmpL (pa.drop k) (pb.drop k) = if pa.length < pb.length then -1 else 1) := cmpL_end (by omega) hka hkb
      go_wp2
      all_goals
        go_ret
        refine ⟨ret_int (by rw [← HR.out, HE.out]; first | rw [if_pos (by assumption)] | rw [if_neg (by assumption)]), HB.out.trans (hbw.out.mono HB.out.size)⟩

set_option maxHeartbeats 800000 in
theorem cmpPre_any (a b : ByteArray) (w : World) (ha : a.size ≤ 1024) (hb : b.size ≤ 1024) :
    Calls Ybsm.prog 32 #[.string a, .string b] w fun e w' => e = .returned (.int .i64 (cmpPre a b)) ∧ Below w.heap.size w w' := by
  cases h1 : (a.toList == b.toList) with
  | true =>
    have HP : Hid (cmpPre a b = 0) := by show cmpPre a b = 0; simp only [cmpPre, h1, if_true]
    go_enter Ybsm.func32, Ybsm.ntmps32
    go_wp2
    go_ret
    exact ⟨ret_int HP.out.symm, Below.refl _ _⟩
  | false =>
    cases h2 : a.toList.isEmpty with
    | true =>
      have HP : Hid (cmpPre a b = 1) := by show cmpPre a b = 1; simp [cmpPre, h1, h2]
      go_enter Ybsm.func32, Ybsm.ntmps32
      go_wp2
      go_ret
      exact ⟨ret_int HP.out.symm, Below.refl _ _⟩
    | false =>
      cases h3 : b.toList.isEmpty with
      | true =>
        have HP : Hid (cmpPre a b = -1) := by show cmpPre a b = -1; simp [cmpPre, h1, h2, h3]
        go_enter Ybsm.func32, Ybsm.ntmps32
        go_wp2
        go_ret
        exact ⟨ret_int HP.out.symm, Below.refl _ _⟩
      | false =>
        have HP : cmpPre a b = cmpL (split a) (split b) := by simp [cmpPre, h1, h2, h3]
        rw [HP]
        exact cmpPre_rest a b w ha hb h1 h2 h3
end Go.Proofs.Ymbrbs.Kb
