/-
  The pure meaning of QuotientLarge is 'true' at every input. No condition.
-/
import Derived.Test.YtpimdkepcckaaabDoorSem
namespace Go.Deep.T
open Go Go.Deep
theorem awake : Sem cfg 5 [] (.bool true, []) := Sem.eq (k := 80) (by kernel_rfl)
section
variable (f0 f1 r : Int) (x0 : Int) (x1 : Bool) (x2 : Int) (x3 : List Int) (y0 : Int) (y1 : Bool) (y2 : Int) (y3 : List Int)
theorem short_no (h : 40 < x3.length ∨ 40 < y3.length) : Sem cfg 4 [(.rows 4 2 [(.int .i64 x0), (.bool x1), (.int .i64 x2), (.ints .u64 x3), (.int .i64 y0), (.bool y1), (.int .i64 y2), (.ints .u64 y3)])] (.bool false, []) := by
  refine Sem.eq (k := (0 + 4) + 1) ?_
  rw [u4]
  unfold t4
  by_cases h1 : 40 < x3.length
  · rw [show decide (((x3.length : Nat) : Int) > 40) = true by simp; omega]; rfl
  · rw [show decide (((x3.length : Nat) : Int) > 40) = false by simp; omega, show decide (((y3.length : Nat) : Int) > 40) = true by simp; omega]; rfl
theorem short_yes (h : ¬ (40 < x3.length ∨ 40 < y3.length)) : Sem cfg 4 [(.rows 4 2 [(.int .i64 x0), (.bool x1), (.int .i64 x2), (.ints .u64 x3), (.int .i64 y0), (.bool y1), (.int .i64 y2), (.ints .u64 y3)])] (.bool true, []) := by
  refine Sem.eq (k := (0 + 4) + 1) ?_
  rw [u4]
  unfold t4
  rw [show decide (((x3.length : Nat) : Int) > 40) = false by simp; omega, show decide (((y3.length : Nat) : Int) > 40) = false by simp; omega]; rfl

theorem args2_size (out : Bool) (h : 4096 < x3.length ∨ 4096 < y3.length) : Sem cfg 16 [(.agg [(.int .i64 f0), (.int .i64 f1)]), (.int .i64 r), (.bool out), (.rows 4 2 [(.int .i64 x0), (.bool x1), (.int .i64 x2), (.ints .u64 x3), (.int .i64 y0), (.bool y1), (.int .i64 y2), (.ints .u64 y3)])] (.tup [.rows 4 0 [], .int .i64 2], []) := by
  refine Sem.eq (k := (0 + 4) + 1) ?_
  rw [u16b]
  unfold t16b
  by_cases h1 : 4096 < x3.length
  · rw [show decide (((x3.length : Nat) : Int) > 4096) = true by simp; omega]; rfl
  · rw [show decide (((x3.length : Nat) : Int) > 4096) = false by simp; omega, show decide (((y3.length : Nat) : Int) > 4096) = true by simp; omega]; rfl
theorem args1_size (out : Bool) (h : 4096 < x3.length) : Sem cfg 16 [(.agg [(.int .i64 f0), (.int .i64 f1)]), (.int .i64 r), (.bool out), (.rows 4 1 [(.int .i64 x0), (.bool x1), (.int .i64 x2), (.ints .u64 x3)])] (.tup [.rows 4 0 [], .int .i64 2], []) := by
  refine Sem.eq (k := (0 + 4) + 1) ?_
  rw [u16a]
  unfold t16a
  rw [show decide (((x3.length : Nat) : Int) > 4096) = true by simp; omega]; rfl
theorem nothing : Sem cfg 17 [] (.agg [.int .i64 0, .bool false, .int .i64 0, .ints .u64 []], []) := by
  refine Sem.eq (k := 0 + 1) ?_
  rw [u17]
  rfl

theorem ne2 : ((2 : Int) != 0) = true := rfl

/-- nothing beside ErrSize -/
def noFloat : Res := (.tup [.agg [.int .i64 0, .bool false, .int .i64 0, .ints .u64 []], .int .i64 0, .int .i64 2], [])

theorem div_size (h : 4096 < x3.length ∨ 4096 < y3.length) : Sem cfg 7 [(.agg [(.int .i64 f0), (.int .i64 f1)]), (.int .i64 r), (.agg [(.int .i64 x0), (.bool x1), (.int .i64 x2), (.ints .u64 x3)]), (.agg [(.int .i64 y0), (.bool y1), (.int .i64 y2), (.ints .u64 y3)])] noFloat := by
  obtain ⟨K1, h1⟩ := (args2_size f0 f1 r x0 x1 x2 x3 y0 y1 y2 y3 false h).at
  obtain ⟨K2, h2⟩ := nothing.at
  refine Sem.of 1 ⟨K1 + K2, fun k hk => ?_⟩
  rw [u7]; unfold t7
  rw [h1 k (by omega), call1_some, ne2, cond_true, h2 k (by omega)]
  rfl
theorem root_size (n : Int) (h : 4096 < x3.length) : Sem cfg 8 [(.agg [(.int .i64 f0), (.int .i64 f1)]), (.int .i64 r), (.agg [(.int .i64 x0), (.bool x1), (.int .i64 x2), (.ints .u64 x3)]), (.int .i64 n)] noFloat := by
  obtain ⟨K1, h1⟩ := (args1_size f0 f1 r x0 x1 x2 x3 true h).at
  obtain ⟨K3, h3⟩ := (args1_size f0 f1 r x0 x1 x2 x3 false h).at
  obtain ⟨K2, h2⟩ := nothing.at
  refine Sem.of 1 ⟨K1 + K2 + K3, fun k hk => ?_⟩
  rw [u8]; unfold t8
  cases hd : decide ((n : Int) < 2)
  · rw [cond_false]
    cases he : decide ((n : Int) > 16)
    · rw [h3 k (by omega), call1_some, ne2, cond_true, h2 k (by omega)]
      rfl
    · rw [h1 k (by omega), call1_some, ne2, cond_true, h2 k (by omega)]
      rfl
  · rw [cond_true, h1 k (by omega), call1_some, ne2, cond_true, h2 k (by omega)]
    rfl
theorem sqrt_size (h : 4096 < x3.length) : Sem cfg 9 [(.agg [(.int .i64 f0), (.int .i64 f1)]), (.int .i64 r), (.agg [(.int .i64 x0), (.bool x1), (.int .i64 x2), (.ints .u64 x3)])] noFloat := by
  obtain ⟨K1, h1⟩ := (root_size f0 f1 r x0 x1 x2 x3 2 h).at
  refine Sem.of 1 ⟨K1, fun k hk => ?_⟩
  rw [u9]; unfold t9
  rw [h1 k hk]
  rfl
theorem hypot_size (h : 4096 < x3.length ∨ 4096 < y3.length) : Sem cfg 10 [(.agg [(.int .i64 f0), (.int .i64 f1)]), (.int .i64 r), (.agg [(.int .i64 x0), (.bool x1), (.int .i64 x2), (.ints .u64 x3)]), (.agg [(.int .i64 y0), (.bool y1), (.int .i64 y2), (.ints .u64 y3)])] noFloat := by
  obtain ⟨K1, h1⟩ := (args2_size f0 f1 r x0 x1 x2 x3 y0 y1 y2 y3 false h).at
  obtain ⟨K2, h2⟩ := nothing.at
  refine Sem.of 1 ⟨K1 + K2, fun k hk => ?_⟩
  rw [u10]; unfold t10
  rw [h1 k (by omega), call1_some, ne2, cond_true, h2 k (by omega)]
  rfl
theorem remainder_size (h : 4096 < x3.length ∨ 4096 < y3.length) : Sem cfg 26 [(.agg [(.int .i64 f0), (.int .i64 f1)]), (.int .i64 r), (.agg [(.int .i64 x0), (.bool x1), (.int .i64 x2), (.ints .u64 x3)]), (.agg [(.int .i64 y0), (.bool y1), (.int .i64 y2), (.ints .u64 y3)])] noFloat := by
  obtain ⟨K1, h1⟩ := (args2_size f0 f1 r x0 x1 x2 x3 y0 y1 y2 y3 false h).at
  obtain ⟨K2, h2⟩ := nothing.at
  refine Sem.of 1 ⟨K1 + K2, fun k hk => ?_⟩
  rw [u26]; unfold t26
  rw [h1 k (by omega), call1_some, ne2, cond_true, h2 k (by omega)]
  rfl
theorem rem_size (h : 4096 < x3.length ∨ 4096 < y3.length) : Sem cfg 11 [(.agg [(.int .i64 f0), (.int .i64 f1)]), (.agg [(.int .i64 x0), (.bool x1), (.int .i64 x2), (.ints .u64 x3)]), (.agg [(.int .i64 y0), (.bool y1), (.int .i64 y2), (.ints .u64 y3)])] noFloat := by
  obtain ⟨K1, h1⟩ := (remainder_size f0 f1 0 x0 x1 x2 x3 y0 y1 y2 y3 h).at
  refine Sem.of 1 ⟨K1, fun k hk => ?_⟩
  rw [u11]; unfold t11
  rw [h1 k hk]
  rfl
theorem mod_size (h : 4096 < x3.length ∨ 4096 < y3.length) : Sem cfg 12 [(.agg [(.int .i64 f0), (.int .i64 f1)]), (.agg [(.int .i64 x0), (.bool x1), (.int .i64 x2), (.ints .u64 x3)]), (.agg [(.int .i64 y0), (.bool y1), (.int .i64 y2), (.ints .u64 y3)])] noFloat := by
  obtain ⟨K1, h1⟩ := (remainder_size f0 f1 2 x0 x1 x2 x3 y0 y1 y2 y3 h).at
  refine Sem.of 1 ⟨K1, fun k hk => ?_⟩
  rw [u12]; unfold t12
  rw [h1 k hk]
  rfl
theorem quo_size (h : 4096 < x3.length ∨ 4096 < y3.length) : Sem cfg 13 [(.agg [(.int .i64 f0), (.int .i64 f1)]), (.int .i64 r), (.agg [(.int .i64 x0), (.bool x1), (.int .i64 x2), (.ints .u64 x3)]), (.agg [(.int .i64 y0), (.bool y1), (.int .i64 y2), (.ints .u64 y3)])] (.tup [.agg [.bool false, .ints .u64 []], .int .i64 2], []) := by
  obtain ⟨K1, h1⟩ := (args2_size f0 f1 r x0 x1 x2 x3 y0 y1 y2 y3 false h).at
  refine Sem.of 1 ⟨K1, fun k hk => ?_⟩
  rw [u13]; unfold t13
  rw [h1 k (by omega), call1_some, ne2, cond_true]
theorem fits : Sem cfg 14 [(.agg [(.int .i64 0), (.bool false), (.int .i64 0), (.ints .u64 [])]), (.int .i64 0), (.int .i64 2), (.agg [(.int .i64 0), (.bool false), (.int .i64 0), (.ints .u64 [])]), (.int .i64 0), (.int .i64 2)] (.bool true, []) := Sem.eq (k := 10) (by kernel_rfl)
theorem noInt : Sem cfg 15 [(.agg [(.bool false), (.ints .u64 [])])] (.bool true, []) := Sem.eq (k := 10) (by kernel_rfl)

theorem long_loop : ∀ (m : Nat) (i : Int) (l : List Int) (k n : Nat), 0 ≤ i → i ≤ 40 → l.length = 4097 → 40 < m + i → m < n → ∃ l' : List Int, l'.length = 4097 ∧ lo6_0 k x3 x0 x1 x2 n i l = some (.agg [.int .i64 x0, .bool x1, .int .i64 x2, .ints .u64 l'], []) := by
  intro m
  induction m with
  | zero => intro i l k n h0 h1; omega
  | succ m ih =>
    intro i l k n h0 h1 hl hm hn
    obtain ⟨n, rfl⟩ : ∃ n', n = n' + 1 := ⟨n - 1, by omega⟩
    have hout : (bif (decide ((4097 : Nat) ≤ (List.length l))) then (some ((.agg [(.int .i64 x0), (.bool x1), (.int .i64 x2), (.ints .u64 (List.take 4097 (List.drop 0 l)))]), []) : Option Res) else none) = some (.agg [.int .i64 x0, .bool x1, .int .i64 x2, .ints .u64 l], []) := by
      rw [show decide (4097 ≤ l.length) = true from decide_eq_true (by omega), cond_true, List.drop_zero, List.take_of_length_le (by omega)]
    show ∃ l' : List Int, l'.length = 4097 ∧ st6_0 k x3 x0 x1 x2 (lo6_0 k x3 x0 x1 x2 n) i l = _
    unfold st6_0
    rw [hout]
    cases hd : decide (i < ((x3.length : Nat) : Int)) with
    | false => exact ⟨l, hl, rfl⟩
    | true =>
      rw [cond_true]
      cases he : decide (i < 40) with
      | false => exact ⟨l, hl, rfl⟩
      | true =>
        have he : i < 40 := by simpa using he
        simp only [cond_true]
        rw [show decide (0 ≤ i) = true by simpa using h0, show decide (i < 4097) = true from decide_eq_true (by omega), show decide (0 + i.toNat * 1 < l.length) = true from decide_eq_true (by omega)]
        simp only [cond_true]
        have hw : iadd .i64 i 1 = i + 1 := by unfold iadd; rw [IntKind.wrap_i64]; omega
        rw [hw]
        exact ih (i + 1) _ k n (by omega) (by omega) (by rw [List.length_set]; exact hl) (by omega) (by omega)

theorem long : ∃ l' : List Int, l'.length = 4097 ∧ Sem cfg 6 [(.agg [(.int .i64 x0), (.bool x1), (.int .i64 x2), (.ints .u64 x3)])] (.agg [.int .i64 x0, .bool x1, .int .i64 x2, .ints .u64 l'], []) := by
  obtain ⟨l', h1, h2⟩ := long_loop x0 x1 x2 x3 41 0 (List.replicate 4097 (0 : Int)) 50 50 (by omega) (by omega) List.length_replicate (by omega) (by omega)
  refine ⟨l', h1, Sem.eq (k := 50 + 1) ?_⟩
  rw [u6]
  exact h2

/-- the law's meaning -/
theorem law : Sem cfg 3 [(.agg [(.int .i64 f0), (.int .i64 f1)]), (.int .i64 r), (.agg [(.int .i64 x0), (.bool x1), (.int .i64 x2), (.ints .u64 x3)]), (.agg [(.int .i64 y0), (.bool y1), (.int .i64 y2), (.ints .u64 y3)])] (.bool true, []) := by
  obtain ⟨KA, hA⟩ := awake.at
  by_cases hs : 40 < x3.length ∨ 40 < y3.length
  · obtain ⟨K1, h1⟩ := (short_no x0 x1 x2 x3 y0 y1 y2 y3 hs).at
    refine Sem.of 1 ⟨K1 + KA, fun k hk => ?_⟩
    rw [u3]; unfold t3
    rw [h1 k (by omega), call0_some, Bool.not_false, cond_true, hA k (by omega)]
    rfl
  · obtain ⟨K1, h1⟩ := (short_yes x0 x1 x2 x3 y0 y1 y2 y3 hs).at
    obtain ⟨l, hl, hL⟩ := long y0 y1 y2 y3
    have ha : 4096 < x3.length ∨ 4096 < l.length := .inr (by omega)
    have hb : 4096 < l.length ∨ 4096 < x3.length := .inl (by omega)
    have hc : 4096 < l.length := by omega
    obtain ⟨K2, h2⟩ := hL.at
    obtain ⟨K3, h3⟩ := (div_size f0 f1 r x0 x1 x2 x3 y0 y1 y2 l ha).at
    obtain ⟨K4, h4⟩ := (root_size f0 f1 r y0 y1 y2 l 1 hc).at
    obtain ⟨K5, h5⟩ := (sqrt_size f0 f1 r y0 y1 y2 l hc).at
    obtain ⟨K6, h6⟩ := (hypot_size f0 f1 r y0 y1 y2 l x0 x1 x2 x3 hb).at
    obtain ⟨K7, h7⟩ := (rem_size f0 f1 x0 x1 x2 x3 y0 y1 y2 l ha).at
    obtain ⟨K8, h8⟩ := (mod_size f0 f1 y0 y1 y2 l x0 x1 x2 x3 hb).at
    obtain ⟨K9, h9⟩ := (quo_size f0 f1 r x0 x1 x2 x3 y0 y1 y2 l ha).at
    obtain ⟨K10, h10⟩ := fits.at
    obtain ⟨K11, h11⟩ := noInt.at
    refine Sem.of 1 ⟨K1 + K2 + K3 + K4 + K5 + K6 + K7 + K8 + K9 + K10 + K11 + KA, fun k hk => ?_⟩
    rw [u3]; unfold t3
    rw [h1 k (by omega), call0_some, Bool.not_true, cond_false, h2 k (by omega), call2_some, h3 k (by omega)]
    unfold noFloat at h4 h5 h6 h7 h8 ⊢
    rw [call5_some, h4 k (by omega), call5_some, h5 k (by omega), call5_some, h6 k (by omega), call5_some, h7 k (by omega), call5_some, h8 k (by omega), call5_some, h9 k (by omega), call8_some, h10 k (by omega)]
    simp only [call0_some, cond_true]
    rw [show ((2 : Int) == 2) = true from rfl, cond_true, h11 k (by omega), call0_some, cond_true, hA k (by omega)]
    rfl
end
end Go.Deep.T
