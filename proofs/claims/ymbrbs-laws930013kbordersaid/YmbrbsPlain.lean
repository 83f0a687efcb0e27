/-
  THE PLAIN FUNCTIONS on the road of 'LawS930013KBorder': what each Go function computes, with no Go in sight; and the plain law on the search's border.
-/
import GoSem.Op.String
namespace Go.Proofs.Ymbrbs.Kb

/-- The byte at i, 0 beyond the end. -/
def byteAt (s : ByteArray) (i : Nat) : UInt8 := s.data.toList.getD i 0

/-- '0' to '9'. -/
def digB (c : UInt8) : Bool := decide (48 ≤ (c.toNat : Int) ∧ (c.toNat : Int) ≤ 57)

/-- IsNumeric. -/
def isNum (s : ByteArray) : Bool := s.data.toList.all digB && decide (0 < s.size)

/-- SplitDots, the loop's state behind k rounds: the pieces so far, and where the next one starts. -/
def sp (s : ByteArray) : Nat → List ByteArray × Nat
  | 0 => ([], 0)
  | k + 1 => if byteAt s k = 46 then ((sp s k).1 ++ [s.extract (sp s k).2 k], k + 1) else sp s k

/-- SplitDots. -/
def split (s : ByteArray) : List ByteArray := (sp s s.size).1 ++ [s.extract (sp s s.size).2 s.size]

theorem sp_dot (s : ByteArray) (k : Nat) (h : byteAt s k = 46) : sp s (k + 1) = ((sp s k).1 ++ [s.extract (sp s k).2 k], k + 1) := by simp [sp, h]
theorem sp_not (s : ByteArray) (k : Nat) (h : ¬ byteAt s k = 46) : sp s (k + 1) = sp s k := by simp [sp, h]

theorem sp_len (s : ByteArray) (k : Nat) : (sp s k).1.length ≤ k := by
  induction k with
  | zero => simp [sp]
  | succ k ih =>
    by_cases h : byteAt s k = 46
    · rw [sp_dot s k h]; simp; omega
    · rw [sp_not s k h]; omega

theorem sp_start (s : ByteArray) (k : Nat) : (sp s k).2 ≤ k := by
  induction k with
  | zero => simp [sp]
  | succ k ih =>
    by_cases h : byteAt s k = 46
    · rw [sp_dot s k h]; simp
    · rw [sp_not s k h]; omega

theorem split_len (s : ByteArray) : (split s).length ≤ s.size + 1 := by
  have := sp_len s s.size
  simp [split]; omega

theorem split_size {s t : ByteArray} (h : t ∈ split s) : t.size ≤ s.size := by
  have key : ∀ k, k ≤ s.size → ∀ u ∈ (sp s k).1, u.size ≤ s.size := by
    intro k
    induction k with
    | zero => intro _ u hu; simp [sp] at hu
    | succ k ih =>
      intro hk u hu
      by_cases hd : byteAt s k = 46
      · rw [sp_dot s k hd] at hu
        simp only [List.mem_append, List.mem_singleton] at hu
        rcases hu with hu | rfl
        · exact ih (by omega) u hu
        · rw [ByteArray.size_extract]; omega
      · rw [sp_not s k hd] at hu
        exact ih (by omega) u hu
  simp only [split, List.mem_append, List.mem_singleton] at h
  rcases h with h | rfl
  · exact key _ (Nat.le_refl _) t h
  · rw [ByteArray.size_extract]; omega

/-- CompareIdent's 'less'. -/
def idLess (a b : ByteArray) : Bool :=
  if isNum a != isNum b then isNum a
  else if isNum a && ((a.size : Int) != (b.size : Int)) then decide (a.size < b.size)
  else Op.bytesLess a.toList b.toList

/-- CompareIdent. -/
def cmpId (a b : ByteArray) : Int := if idLess a b then -1 else if a.toList == b.toList then 0 else 1

/-- ComparePre's loop, and what stands behind it. -/
def cmpL : List ByteArray → List ByteArray → Int
  | a :: as, b :: bs => if cmpId a b = 0 then cmpL as bs else cmpId a b
  | [], _ :: _ => -1
  | _, [] => 1

/-- ComparePre. -/
def cmpPre (a b : ByteArray) : Int :=
  if a.toList == b.toList then 0 else if a.toList.isEmpty then 1 else if b.toList.isEmpty then -1 else cmpL (split a) (split b)

/-- A version. -/
structure Ver where
  major : Int
  minor : Int
  patch : Int
  pre : ByteArray

/-- Compare. -/
def cmp (a b : Ver) : Int :=
  if a.major = b.major then
    (if a.minor = b.minor then
      (if a.patch = b.patch then cmpPre a.pre b.pre else if a.patch < b.patch then -1 else 1)
    else if a.minor < b.minor then -1 else 1)
  else if a.major < b.major then -1 else 1

theorem cmpId_bd (a b : ByteArray) : -1 ≤ cmpId a b ∧ cmpId a b ≤ 1 := by
  unfold cmpId; split
  · omega
  · split <;> omega

theorem cmpL_bd (a b : List ByteArray) : -1 ≤ cmpL a b ∧ cmpL a b ≤ 1 := by
  induction a generalizing b with
  | nil => cases b <;> simp [cmpL]
  | cons x xs ih =>
    cases b with
    | nil => simp [cmpL]
    | cons y ys =>
      simp only [cmpL]; split
      · exact ih ys
      · exact cmpId_bd x y

theorem cmpPre_bd (a b : ByteArray) : -1 ≤ cmpPre a b ∧ cmpPre a b ≤ 1 := by
  unfold cmpPre
  split
  · omega
  · split
    · omega
    · split
      · omega
      · exact cmpL_bd _ _

theorem cmp_bd (a b : Ver) : -1 ≤ cmp a b ∧ cmp a b ≤ 1 := by
  unfold cmp
  split
  · split
    · split
      · exact cmpPre_bd _ _
      · split <;> omega
    · split <;> omega
  · split <;> omega

/-- ComparePre's loop, a round: both lists go on. -/
theorem cmpL_step {pa pb : List ByteArray} {k : Nat} {a b : ByteArray} (ha : pa[k]? = some a) (hb : pb[k]? = some b) : cmpL (pa.drop k) (pb.drop k) = if cmpId a b = 0 then cmpL (pa.drop (k + 1)) (pb.drop (k + 1)) else cmpId a b := by
  obtain ⟨h1, rfl⟩ := List.getElem?_eq_some_iff.1 ha
  obtain ⟨h2, rfl⟩ := List.getElem?_eq_some_iff.1 hb
  rw [List.drop_eq_getElem_cons h1, List.drop_eq_getElem_cons h2]
  rfl

/-- .. one of them is through. -/
theorem cmpL_end {pa pb : List ByteArray} {k : Nat} (h : pa.length ≤ k ∨ pb.length ≤ k) (ha : k ≤ pa.length) (hb : k ≤ pb.length) : cmpL (pa.drop k) (pb.drop k) = if pa.length < pb.length then -1 else 1 := by
  rcases h with h | h
  · rw [List.drop_eq_nil_of_le h]
    cases hd : pb.drop k with
    | nil => rw [List.drop_eq_nil_iff] at hd; rw [if_neg (by omega)]; rfl
    | cons y ys =>
      have : k < pb.length := by
        apply Nat.lt_of_not_le; intro hle; rw [List.drop_eq_nil_of_le hle] at hd; cases hd
      rw [if_pos (by omega)]; rfl
  · rw [List.drop_eq_nil_of_le (as := pb) h, if_neg (by omega)]
    cases pa.drop k <;> rfl

end Go.Proofs.Ymbrbs.Kb
