/-
  THE WALK of the law (9): it returns true, whatever came in.
-/
import Derived.Test.YmbrbsWalkF
import Derived.Deep.CutRange
namespace Go.Proofs.Ymbrbs.Kb
open Go.RowKit

theorem box_keep {w wr w3 : World} {o : Obj} (hb : Below (w.heap.size + 1) (w.alloc o) wr) (h3 : Below wr.heap.size wr w3) : Hid (Below (w.heap.size + 1) (w.alloc o) w3) := box_step hb h3

theorem box_first {w w1 : World} {o : Obj} (h : Below (w.alloc o).heap.size (w.alloc o) w1) : Hid (Below (w.heap.size + 1) (w.alloc o) w1) := h.mono (by simp)

/-- Compare's call inside the law: element i against v, in whatever world. -/
theorem cmp_at {len : Nat} {V : Nat → Ver} {b1 b2 b3 x1 x2 x3 : Int} {t xs : ByteArray} {i : Nat} (hf : Fits len V t) (hi : i < len) (hx : V i = ⟨x1, x2, x3, xs⟩) {c : Int} (hc : cmp (V i) ⟨b1, b2, b3, t⟩ = c) :
    Hid (∀ wx, Calls Ybsm.prog 24 #[.agg #[.int .u64 x1, .int .u64 x2, .int .u64 x3, .string xs], .agg #[.int .u64 b1, .int .u64 b2, .int .u64 b3, .string t]] wx fun e w' => e = .returned (.int .i64 c) ∧ Below wx.heap.size wx w') := fun wx => by
  have hs := hf.2.2 i hi
  rw [hx] at hs hc
  rw [← hc]
  exact cmp_any x1 x2 x3 b1 b2 b3 xs t wx hs hf.2.1

set_option linter.unusedSimpArgs false in
set_option maxHeartbeats 1000000 in
theorem law_any (a : Option Addr) (b off len cap : Nat) (V : Nat → Ver) (b1 b2 b3 : Int) (t : ByteArray) (w : World) (hv : Vers w a b off len V) (ht : t.size ≤ maxLen) :
    Calls Ybsm.prog 9 #[.slice a len cap, .agg #[.int .u64 b1, .int .u64 b2, .int .u64 b3, .string t]] w
      fun e w' => e = .returned (.bool true) ∧ Below w.heap.size w w' := by
  have HV : Hid (Vers w a b off len V) := hv
  have CF : Hid (∀ wx, Vers wx a b off len V → Calls Ybsm.prog 23 #[.slice a len cap, .agg #[.int .u64 b1, .int .u64 b2, .int .u64 b3, .string t]] wx (FitsLeft wx len V t)) := fun wx h => fits_any a b off len cap V b1 b2 b3 t wx h ht
  have CS : Hid (∀ wx, Fits len V t → Vers wx a b off len V → Calls Ybsm.prog 22 #[.slice a len cap, .agg #[.int .u64 b1, .int .u64 b2, .int .u64 b3, .string t]] wx (SearchLeft wx len V ⟨b1, b2, b3, t⟩)) := fun wx hf h => search_any a b off len cap V b1 b2 b3 t wx h hf
  have hm := hv.short
  unfold maxLen at hm
  clear hv
  go_enter Ybsm.func9, Ybsm.ntmps9
  go_wp2_with fail
  refine (CF.out _ (HV.out.later ((Below.refl _ _).alloc (Nat.le_refl _) _))).mono ?_
  rintro e w1 ⟨r, rfl, hr, hb1⟩
  have HB1 := box_first hb1
  clear hb1
  cases r with
  | false =>
    clear hr
    go_wp2
    go_ret
    exact ⟨rfl, box_below HB1.out⟩
  | true =>
    have HF : Hid (Fits len V t) := hr rfl
    clear hr
    have r0 : w1.cell? ⟨w.heap.size, 0, none⟩ = some (.int .u64 b1) := box_cell HB1.out 0
    have r1 : w1.cell? ⟨w.heap.size, 1, none⟩ = some (.int .u64 b2) := box_cell HB1.out 1
    have r2 : w1.cell? ⟨w.heap.size, 2, none⟩ = some (.int .u64 b3) := box_cell HB1.out 2
    have r3 : w1.cell? ⟨w.heap.size, 3, none⟩ = some (.string t) := box_cell HB1.out 3
    go_wp2_with fail
    refine (CS.out _ HF.out (HV.out.later (box_below HB1.out))).mono ?_
    rintro e w2 ⟨k, rfl, hk, HL, HH, hb2⟩
    have HB2 := box_keep HB1.out hb2
    clear hb2 r0 r1 r2 r3
    have r0 : w2.cell? ⟨w.heap.size, 0, none⟩ = some (.int .u64 b1) := box_cell HB2.out 0
    have r1 : w2.cell? ⟨w.heap.size, 1, none⟩ = some (.int .u64 b2) := box_cell HB2.out 1
    have r2 : w2.cell? ⟨w.heap.size, 2, none⟩ = some (.int .u64 b3) := box_cell HB2.out 2
    have r3 : w2.cell? ⟨w.heap.size, 3, none⟩ = some (.string t) := box_cell HB2.out 3
    have hlen := HF.out.1
    have HL' : Hid (Low V ⟨b1, b2, b3, t⟩ k) := HL
    have HH' : Hid (High len V ⟨b1, b2, b3, t⟩ k) := HH
    clear HL HH
    go_wp2_with fail
    go_cut [32] from 6 to 45 (fun s32 wx => s32 = .bool false ∧ Hid (Below (w.heap.size + 1) (w.alloc (.cells #[.int .u64 b1, .int .u64 b2, .int .u64 b3, .string t] 31)) wx))
    case first =>
      by_cases hk0 : 0 < k
      · -- THE ELEMENT JUST BEFORE IT
        obtain ⟨j, hj, hjk, hjn⟩ : ∃ j : Nat, (k : Int) - 1 = (j : Int) ∧ j = k - 1 ∧ j < len := ⟨k - 1, by omega, rfl, by omega⟩
        obtain rfl := HV.out.addr (by omega)
        have hvr := HV.out.later (box_below HB2.out)
        obtain ⟨x1, x2, x3, xs, hx⟩ : ∃ x1 x2 x3 xs, V j = ⟨x1, x2, x3, xs⟩ := ⟨_, _, _, _, rfl⟩
        have q0 := hvr.c0 j hjn
        have q1 := hvr.c1 j hjn
        have q2 := hvr.c2 j hjn
        have q3 := hvr.c3 j hjn
        rw [hx] at q0 q1 q2 q3
        dsimp only at q0 q1 q2 q3
        obtain ⟨c, hc⟩ : ∃ c, cmp (V j) ⟨b1, b2, b3, t⟩ = c := ⟨_, rfl⟩
        have CI := cmp_at HF.out hjn hx hc
        have hneg : c < 0 := by rw [← hc, hjk]; exact HL'.out hk0
        have p0 : (0 : Int) < (k : Int) := by omega
        have p1 : (j : Int) < (len : Int) := by omega
        have hw : IntKind.i64.wrap (j : Int) = (j : Int) := by rw [IntKind.wrap_i64]; omega
        clear hvr hx hc hjk
        refine wp_region_any (by kernel_rfl) ?_
        try (change wpAny _ _ _ _ _ _ _ (World.drew _))
        refine wpAny_take (i := 0) (v := ?_) rfl (by kernel_rfl) (by kernel_rfl) (by kernel_rfl) (fun _ _ _ h => h) (Or.inl ⟨by rfl, ?_⟩) ?_
        rotate_left
        · intro w; go_simp; with_reducible rfl
        simp only [Act.put, List.getElem_toArray, List.getElem_cons_zero, List.getElem_cons_succ, List.setIfInBounds_toArray, List.set_cons_succ, List.set_cons_zero]
        refine wpAny_take (i := 1) (v := ?_) rfl (by kernel_rfl) (by kernel_rfl) (by kernel_rfl) (fun _ _ _ h => h) (Or.inl ⟨by rfl, ?_⟩) ?_
        rotate_left
        · intro w; go_simp; with_reducible rfl
        simp only [Act.put, List.getElem_toArray, List.getElem_cons_zero, List.getElem_cons_succ, List.setIfInBounds_toArray, List.set_cons_succ, List.set_cons_zero]
        refine wpAny_take (i := 2) (v := ?_) rfl (by kernel_rfl) (by kernel_rfl) (by kernel_rfl) (fun _ _ _ h => h) (Or.inl ⟨by rfl, ?_⟩) ?_
        rotate_left
        · intro w; go_simp; with_reducible rfl
        simp only [Act.put, List.getElem_toArray, List.getElem_cons_zero, List.getElem_cons_succ, List.setIfInBounds_toArray, List.set_cons_succ, List.set_cons_zero]
        refine wpAny_take (i := 3) (v := ?_) rfl (by kernel_rfl) (by kernel_rfl) (by kernel_rfl) (fun _ _ _ h => h) (Or.inl ⟨by rfl, ?_⟩) ?_
        rotate_left
        · intro w; go_simp; with_reducible rfl
        simp only [Act.put, List.getElem_toArray, List.getElem_cons_zero, List.getElem_cons_succ, List.setIfInBounds_toArray, List.set_cons_succ, List.set_cons_zero]
        refine wpAny_take (i := 4) (v := ?_) rfl (by kernel_rfl) (by kernel_rfl) (by kernel_rfl) (fun _ _ _ h => h) (Or.inl ⟨by rfl, ?_⟩) ?_
        rotate_left
        · intro w; go_simp; with_reducible rfl
        simp only [Act.put, List.getElem_toArray, List.getElem_cons_zero, List.getElem_cons_succ, List.setIfInBounds_toArray, List.set_cons_succ, List.set_cons_zero]
        refine wpAny_take (i := 5) (v := ?_) rfl (by kernel_rfl) (by kernel_rfl) (by kernel_rfl) (fun _ _ _ h => h) (Or.inl ⟨by rfl, ?_⟩) ?_
        rotate_left
        · intro w; go_simp; with_reducible rfl
        simp only [Act.put, List.getElem_toArray, List.getElem_cons_zero, List.getElem_cons_succ, List.setIfInBounds_toArray, List.set_cons_succ, List.set_cons_zero]
        refine wpAny_take (i := 6) (v := ?_) rfl (by kernel_rfl) (by kernel_rfl) (by kernel_rfl) (fun _ _ _ h => h) (Or.inl ⟨by rfl, ?_⟩) ?_
        rotate_left
        · intro w; go_simp; with_reducible rfl
        simp only [Act.put, List.getElem_toArray, List.getElem_cons_zero, List.getElem_cons_succ, List.setIfInBounds_toArray, List.set_cons_succ, List.set_cons_zero]
        refine wpAny_ready (rs := [7, 8]) (by kernel_rfl) (by simp) ?_
        refine AllReady.cons rfl (fun K hK => ?_) (AllReady.cons rfl (fun K hK => ?_) AllReady.nil)
        · go_simp
          refine hK _ _ ?_
          clear hK K
          refine wpAny_ready (rs := [8]) (by kernel_rfl) (by simp) ?_
          refine AllReady.cons rfl (fun K hK => ?_) AllReady.nil
          go_simp
          refine hK _ _ ?_
          clear hK K
          refine wpAny_ready (rs := [9]) (by kernel_rfl) (by simp) ?_
          refine AllReady.cons rfl (fun K hK => ?_) AllReady.nil
          go_simp
          go_wp2_with (go_at_call 24; refine (CI.out _).mono ?_; rintro e w3 ⟨rfl, hb3⟩)
          refine wpAny_take (i := 10) (v := ?_) rfl (by kernel_rfl) (by kernel_rfl) (by kernel_rfl) (fun _ _ _ h => h) (Or.inl ⟨by rfl, ?_⟩) ?_
          rotate_left
          · intro w; go_simp; with_reducible rfl
          simp only [Act.put, List.getElem_toArray, List.getElem_cons_zero, List.getElem_cons_succ, List.setIfInBounds_toArray, List.set_cons_succ, List.set_cons_zero]
          refine wpAny_take (i := 11) (v := ?_) rfl (by kernel_rfl) (by kernel_rfl) (by kernel_rfl) (fun _ _ _ h => h) (Or.inl ⟨by rfl, ?_⟩) ?_
          rotate_left
          · intro w; go_simp; with_reducible rfl
          simp only [Act.put, List.getElem_toArray, List.getElem_cons_zero, List.getElem_cons_succ, List.setIfInBounds_toArray, List.set_cons_succ, List.set_cons_zero]
          refine wpAny_done (by kernel_rfl) ?_ _
          have HB3 := box_keep HB2.out (below_undrew hb3)
          clear hb3
          go_wp2
          go_meet
          case rel => exact ⟨by rw [decide_eq_false (by omega)], HB3⟩
        · go_simp
          refine hK _ _ ?_
          clear hK K
          refine wpAny_ready (rs := [7]) (by kernel_rfl) (by simp) ?_
          refine AllReady.cons rfl (fun K hK => ?_) AllReady.nil
          go_simp
          refine hK _ _ ?_
          clear hK K
          refine wpAny_ready (rs := [9]) (by kernel_rfl) (by simp) ?_
          refine AllReady.cons rfl (fun K hK => ?_) AllReady.nil
          go_simp
          go_wp2_with (go_at_call 24; refine (CI.out _).mono ?_; rintro e w3 ⟨rfl, hb3⟩)
          refine wpAny_take (i := 10) (v := ?_) rfl (by kernel_rfl) (by kernel_rfl) (by kernel_rfl) (fun _ _ _ h => h) (Or.inl ⟨by rfl, ?_⟩) ?_
          rotate_left
          · intro w; go_simp; with_reducible rfl
          simp only [Act.put, List.getElem_toArray, List.getElem_cons_zero, List.getElem_cons_succ, List.setIfInBounds_toArray, List.set_cons_succ, List.set_cons_zero]
          refine wpAny_take (i := 11) (v := ?_) rfl (by kernel_rfl) (by kernel_rfl) (by kernel_rfl) (fun _ _ _ h => h) (Or.inl ⟨by rfl, ?_⟩) ?_
          rotate_left
          · intro w; go_simp; with_reducible rfl
          simp only [Act.put, List.getElem_toArray, List.getElem_cons_zero, List.getElem_cons_succ, List.setIfInBounds_toArray, List.set_cons_succ, List.set_cons_zero]
          refine wpAny_done (by kernel_rfl) ?_ _
          have HB3 := box_keep HB2.out (below_undrew hb3)
          clear hb3
          go_wp2
          go_meet
          case rel => exact ⟨by rw [decide_eq_false (by omega)], HB3⟩
      · have hd : decide ((0 : Int) < (k : Int)) = false := by simp; omega
        go_quiet (fail)
        go_wp2
        go_meet
        case rel => exact ⟨rfl, below_drewN HB2.out nq⟩
    case rest =>
      obtain ⟨rfl, HBc⟩ := hcut
      clear r0 r1 r2 r3 HB1 HB2 HL'
      have r0 : wc.cell? ⟨w.heap.size, 0, none⟩ = some (.int .u64 b1) := box_cell HBc.out 0
      have r1 : wc.cell? ⟨w.heap.size, 1, none⟩ = some (.int .u64 b2) := box_cell HBc.out 1
      have r2 : wc.cell? ⟨w.heap.size, 2, none⟩ = some (.int .u64 b3) := box_cell HBc.out 2
      have r3 : wc.cell? ⟨w.heap.size, 3, none⟩ = some (.string t) := box_cell HBc.out 3
      go_wp2_with fail
      by_cases hkn : k < len
      · -- THE ELEMENT AT IT
        obtain rfl := HV.out.addr (by omega)
        have hvr := HV.out.later (box_below HBc.out)
        obtain ⟨x1, x2, x3, xs, hx⟩ : ∃ x1 x2 x3 xs, V k = ⟨x1, x2, x3, xs⟩ := ⟨_, _, _, _, rfl⟩
        have q0 := hvr.c0 k hkn
        have q1 := hvr.c1 k hkn
        have q2 := hvr.c2 k hkn
        have q3 := hvr.c3 k hkn
        rw [hx] at q0 q1 q2 q3
        dsimp only at q0 q1 q2 q3
        obtain ⟨c, hc⟩ : ∃ c, cmp (V k) ⟨b1, b2, b3, t⟩ = c := ⟨_, rfl⟩
        have CI := cmp_at HF.out hkn hx hc
        have hneg : ¬ c < 0 := by rw [← hc]; exact HH'.out hkn
        have p1 : (k : Int) < (len : Int) := by omega
        clear hvr hx hc
        refine wp_region_any (by kernel_rfl) ?_
        try (change wpAny _ _ _ _ _ _ _ (World.drew _))
        refine wpAny_take (i := 0) (v := ?_) rfl (by kernel_rfl) (by kernel_rfl) (by kernel_rfl) (fun _ _ _ h => h) (Or.inl ⟨by rfl, ?_⟩) ?_
        rotate_left
        · intro w; go_simp; with_reducible rfl
        simp only [Act.put, List.getElem_toArray, List.getElem_cons_zero, List.getElem_cons_succ, List.setIfInBounds_toArray, List.set_cons_succ, List.set_cons_zero]
        refine wpAny_take (i := 1) (v := ?_) rfl (by kernel_rfl) (by kernel_rfl) (by kernel_rfl) (fun _ _ _ h => h) (Or.inl ⟨by rfl, ?_⟩) ?_
        rotate_left
        · intro w; go_simp; with_reducible rfl
        simp only [Act.put, List.getElem_toArray, List.getElem_cons_zero, List.getElem_cons_succ, List.setIfInBounds_toArray, List.set_cons_succ, List.set_cons_zero]
        refine wpAny_take (i := 2) (v := ?_) rfl (by kernel_rfl) (by kernel_rfl) (by kernel_rfl) (fun _ _ _ h => h) (Or.inl ⟨by rfl, ?_⟩) ?_
        rotate_left
        · intro w; go_simp; with_reducible rfl
        simp only [Act.put, List.getElem_toArray, List.getElem_cons_zero, List.getElem_cons_succ, List.setIfInBounds_toArray, List.set_cons_succ, List.set_cons_zero]
        refine wpAny_take (i := 3) (v := ?_) rfl (by kernel_rfl) (by kernel_rfl) (by kernel_rfl) (fun _ _ _ h => h) (Or.inl ⟨by rfl, ?_⟩) ?_
        rotate_left
        · intro w; go_simp; with_reducible rfl
        simp only [Act.put, List.getElem_toArray, List.getElem_cons_zero, List.getElem_cons_succ, List.setIfInBounds_toArray, List.set_cons_succ, List.set_cons_zero]
        refine wpAny_take (i := 4) (v := ?_) rfl (by kernel_rfl) (by kernel_rfl) (by kernel_rfl) (fun _ _ _ h => h) (Or.inl ⟨by rfl, ?_⟩) ?_
        rotate_left
        · intro w; go_simp; with_reducible rfl
        simp only [Act.put, List.getElem_toArray, List.getElem_cons_zero, List.getElem_cons_succ, List.setIfInBounds_toArray, List.set_cons_succ, List.set_cons_zero]
        refine wpAny_take (i := 5) (v := ?_) rfl (by kernel_rfl) (by kernel_rfl) (by kernel_rfl) (fun _ _ _ h => h) (Or.inl ⟨by rfl, ?_⟩) ?_
        rotate_left
        · intro w; go_simp; with_reducible rfl
        simp only [Act.put, List.getElem_toArray, List.getElem_cons_zero, List.getElem_cons_succ, List.setIfInBounds_toArray, List.set_cons_succ, List.set_cons_zero]
        refine wpAny_take (i := 6) (v := ?_) rfl (by kernel_rfl) (by kernel_rfl) (by kernel_rfl) (fun _ _ _ h => h) (Or.inl ⟨by rfl, ?_⟩) ?_
        rotate_left
        · intro w; go_simp; with_reducible rfl
        simp only [Act.put, List.getElem_toArray, List.getElem_cons_zero, List.getElem_cons_succ, List.setIfInBounds_toArray, List.set_cons_succ, List.set_cons_zero]
        refine wpAny_take (i := 7) (v := ?_) rfl (by kernel_rfl) (by kernel_rfl) (by kernel_rfl) (fun _ _ _ h => h) (Or.inl ⟨by rfl, ?_⟩) ?_
        rotate_left
        · intro w; go_simp; with_reducible rfl
        simp only [Act.put, List.getElem_toArray, List.getElem_cons_zero, List.getElem_cons_succ, List.setIfInBounds_toArray, List.set_cons_succ, List.set_cons_zero]
        refine wpAny_ready (rs := [8, 9]) (by kernel_rfl) (by simp) ?_
        refine AllReady.cons rfl (fun K hK => ?_) (AllReady.cons rfl (fun K hK => ?_) AllReady.nil)
        · go_simp
          refine hK _ _ ?_
          clear hK K
          refine wpAny_ready (rs := [9]) (by kernel_rfl) (by simp) ?_
          refine AllReady.cons rfl (fun K hK => ?_) AllReady.nil
          go_simp
          refine hK _ _ ?_
          clear hK K
          refine wpAny_ready (rs := [10]) (by kernel_rfl) (by simp) ?_
          refine AllReady.cons rfl (fun K hK => ?_) AllReady.nil
          go_simp
          go_wp2_with (go_at_call 24; refine (CI.out _).mono ?_; rintro e w3 ⟨rfl, hb3⟩)
          refine wpAny_take (i := 11) (v := ?_) rfl (by kernel_rfl) (by kernel_rfl) (by kernel_rfl) (fun _ _ _ h => h) (Or.inl ⟨by rfl, ?_⟩) ?_
          rotate_left
          · intro w; go_simp; with_reducible rfl
          simp only [Act.put, List.getElem_toArray, List.getElem_cons_zero, List.getElem_cons_succ, List.setIfInBounds_toArray, List.set_cons_succ, List.set_cons_zero]
          refine wpAny_take (i := 12) (v := ?_) rfl (by kernel_rfl) (by kernel_rfl) (by kernel_rfl) (fun _ _ _ h => h) (Or.inl ⟨by rfl, ?_⟩) ?_
          rotate_left
          · intro w; go_simp; with_reducible rfl
          simp only [Act.put, List.getElem_toArray, List.getElem_cons_zero, List.getElem_cons_succ, List.setIfInBounds_toArray, List.set_cons_succ, List.set_cons_zero]
          refine wpAny_done (by kernel_rfl) ?_ _
          have HB3 := box_keep HBc.out (below_undrew hb3)
          clear hb3
          go_wp2
          go_ret
          exact ⟨rfl, box_below HB3.out⟩
        · go_simp
          refine hK _ _ ?_
          clear hK K
          refine wpAny_ready (rs := [8]) (by kernel_rfl) (by simp) ?_
          refine AllReady.cons rfl (fun K hK => ?_) AllReady.nil
          go_simp
          refine hK _ _ ?_
          clear hK K
          refine wpAny_ready (rs := [10]) (by kernel_rfl) (by simp) ?_
          refine AllReady.cons rfl (fun K hK => ?_) AllReady.nil
          go_simp
          go_wp2_with (go_at_call 24; refine (CI.out _).mono ?_; rintro e w3 ⟨rfl, hb3⟩)
          refine wpAny_take (i := 11) (v := ?_) rfl (by kernel_rfl) (by kernel_rfl) (by kernel_rfl) (fun _ _ _ h => h) (Or.inl ⟨by rfl, ?_⟩) ?_
          rotate_left
          · intro w; go_simp; with_reducible rfl
          simp only [Act.put, List.getElem_toArray, List.getElem_cons_zero, List.getElem_cons_succ, List.setIfInBounds_toArray, List.set_cons_succ, List.set_cons_zero]
          refine wpAny_take (i := 12) (v := ?_) rfl (by kernel_rfl) (by kernel_rfl) (by kernel_rfl) (fun _ _ _ h => h) (Or.inl ⟨by rfl, ?_⟩) ?_
          rotate_left
          · intro w; go_simp; with_reducible rfl
          simp only [Act.put, List.getElem_toArray, List.getElem_cons_zero, List.getElem_cons_succ, List.setIfInBounds_toArray, List.set_cons_succ, List.set_cons_zero]
          refine wpAny_done (by kernel_rfl) ?_ _
          have HB3 := box_keep HBc.out (below_undrew hb3)
          clear hb3
          go_wp2
          go_ret
          exact ⟨rfl, box_below HB3.out⟩
      · have hd : decide ((k : Int) < (len : Int)) = false := by simp; omega
        go_quiet (fail)
        go_wp2
        go_ret
        exact ⟨rfl, box_below (below_drewN HBc.out nq)⟩
end Go.Proofs.Ymbrbs.Kb
