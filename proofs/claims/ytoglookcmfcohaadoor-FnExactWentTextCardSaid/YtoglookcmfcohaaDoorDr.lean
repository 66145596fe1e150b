/- What is drawn: each byte is 0 to 255, each number below its bound; whatever the code, something is drawn. -/
import Derived.Test.YtoglookcmfcohaaDoorP5
namespace Go.Proofs.YtoglookcmfcohaaDoor.Dr
open Go.RowKit Go.Proofs.YtoglookcmfcohaaDoor.P Go.Proofs.YtoglookcmfcohaaDoorW.PrintWords Go.Proofs.YtoglookcmfcohaaDoorW.PrintLast

theorem wrap_id {n : Int} (h0 : -9223372036854775808 ≤ n) (h1 : n ≤ 9223372036854775807) : wrap64 n = n := by unfold wrap64; omega
theorem wrap_range (n : Int) : -9223372036854775808 ≤ wrap64 n ∧ wrap64 n ≤ 9223372036854775807 := by unfold wrap64; omega
theorem and_range (x : Int) (m : Nat) (hm : m < 9223372036854775808) : 0 ≤ Go.bits .and .i64 x (m : Int) ∧ Go.bits .and .i64 x (m : Int) ≤ (m : Int) := by
  have h64 : IntKind.i64.bits = 64 := rfl
  have hb : (BitVec.ofInt 64 (m : Int)).toNat = m := by
    rw [BitVec.ofInt_natCast, BitVec.toNat_ofNat]
    exact Nat.mod_eq_of_lt (by omega)
  have hle : (BitVec.ofInt 64 x &&& BitVec.ofInt 64 (m : Int)).toNat ≤ m := by
    rw [BitVec.toNat_and, hb]
    exact Nat.and_le_right
  have e : Go.bits .and .i64 x (m : Int) = IntKind.i64.wrap ((BitVec.ofInt 64 x &&& BitVec.ofInt 64 (m : Int)).toNat : Int) := rfl
  rw [e, IntKind.wrap_i64]
  omega

/-- A cursor that stands right. -/
def Cur (b : List Int) (i _h : Int) : Prop := 0 ≤ i ∧ i ≤ (b.length : Int) ∧ b.length ≤ 1048576
theorem byte_ok (b : List Int) (i h : Int) (hc : Cur b i h) : ∃ x i' h', spec_l1Byte.f b i h = some (x, i', h') ∧ 0 ≤ x ∧ x ≤ 255 ∧ Cur b i' h' := by
  obtain ⟨h0, h1, h2⟩ := hc
  unfold spec_l1Byte.f
  split
  · rename_i hlt
    try rw [if_pos h0]
    refine ⟨_, _, _, rfl, (and_range _ 255 (by decide)).1, (and_range _ 255 (by decide)).2, ?_⟩
    rw [wrap_id (by omega) (by omega)]
    exact ⟨by omega, by omega, h2⟩
  · exact ⟨_, _, _, rfl, (and_range _ 255 (by decide)).1, (and_range _ 255 (by decide)).2, h0, h1, h2⟩
theorem tmod_pos (x n : Int) (hn : 0 < n) (hx : 0 ≤ x) : 0 ≤ Int.tmod x n ∧ Int.tmod x n < n := ⟨Int.tmod_nonneg _ hx, Int.tmod_lt_of_pos _ hn⟩
theorem below_ok (b : List Int) (i h n : Int) (hc : Cur b i h) (hn : n ≤ 2147483647) : ∃ x i' h', spec_l1Below.f b i h n = some (x, i', h') ∧ 0 ≤ x ∧ (x < n ∨ (n ≤ 0 ∧ x = 0)) ∧ Cur b i' h' := by
  unfold spec_l1Below.f
  by_cases h0 : n ≤ 0
  · rw [if_pos h0]
    exact ⟨0, i, h, rfl, by omega, .inr ⟨h0, rfl⟩, hc⟩
  · rw [if_neg h0]
    by_cases h1 : n ≤ 256
    · obtain ⟨x, i', h', e, hx0, hx1, hc'⟩ := byte_ok b i h hc
      rw [if_pos h1, e]
      simp only [Option.bind_some]
      rw [if_neg (by omega)]
      have := tmod_pos x n (by omega) hx0
      exact ⟨_, _, _, rfl, this.1, .inl this.2, hc'⟩
    · obtain ⟨x1, i1, h1', e1, hx10, hx11, hc1⟩ := byte_ok b i h hc
      obtain ⟨x2, i2, h2', e2, hx20, hx21, hc2⟩ := byte_ok b i1 h1' hc1
      obtain ⟨x3, i3, h3', e3, hx30, hx31, hc3⟩ := byte_ok b i2 h2' hc2
      obtain ⟨x4, i4, h4', e4, hx40, hx41, hc4⟩ := byte_ok b i3 h3' hc3
      rw [if_neg h1, e1]
      simp only [Option.bind_some]
      rw [e2]
      simp only [Option.bind_some]
      rw [e3]
      simp only [Option.bind_some]
      rw [e4]
      simp only [Option.bind_some]
      rw [if_neg (by omega)]
      have hw : ∃ y, wrap64 ((wrap64 ((wrap64 ((wrap64 (x1 * 16777216)) + (wrap64 (x2 * 65536)))) + (wrap64 (x3 * 256)))) + x4) = y ∧ 0 ≤ y := by
        refine ⟨_, rfl, ?_⟩
        rw [wrap_id (n := x1 * 16777216) (by omega) (by omega), wrap_id (n := x2 * 65536) (by omega) (by omega), wrap_id (n := x3 * 256) (by omega) (by omega), wrap_id (n := x1 * 16777216 + x2 * 65536) (by omega) (by omega), wrap_id (n := x1 * 16777216 + x2 * 65536 + x3 * 256) (by omega) (by omega), wrap_id (by omega) (by omega)]
        omega
      obtain ⟨y, hy, hy0⟩ := hw
      rw [hy]
      have := tmod_pos y n (by omega) hy0
      exact ⟨_, _, _, rfl, this.1, .inl this.2, hc4⟩
theorem below_pos (b : List Int) (i h n : Int) (hc : Cur b i h) (hn : n ≤ 2147483647) (h1 : 0 < n) : ∃ x i' h', spec_l1Below.f b i h n = some (x, i', h') ∧ 0 ≤ x ∧ x < n ∧ Cur b i' h' := by
  obtain ⟨x, i', h', e, h0, hx, hc'⟩ := below_ok b i h n hc hn
  exact ⟨x, i', h', e, h0, by omega, hc'⟩
theorem once_ok (b : List Int) (i h n : Int) (hc : Cur b i h) (hn : n ≤ 2147483647) : ∃ x i' h', spec_l1Once.f b i h n = some (x, i', h') ∧ Cur b i' h' := by
  obtain ⟨x, i', h', e, _, _, hc'⟩ := below_ok b i h n hc hn
  unfold spec_l1Once.f
  rw [e]
  exact ⟨_, _, _, rfl, hc'⟩
theorem new_loop (b : List Int) (hb : b.length ≤ 1048576) : ∀ (d k : Nat) (h i : Int), 0 ≤ i → i ≤ (b.length : Int) → (b.length : Int) - i = d → d < k → ∃ h', spec_l1New.l0 k b h i = some (b, 0, h') := by
  intro d
  induction d with
  | zero =>
    intro k h i h0 h1 hd hk
    obtain ⟨k, rfl⟩ : ∃ m, k = m + 1 := ⟨k - 1, by omega⟩
    simp only [spec_l1New.l0]
    rw [if_neg (by omega)]
    exact ⟨_, rfl⟩
  | succ d ih =>
    intro k h i h0 h1 hd hk
    obtain ⟨k, rfl⟩ : ∃ m, k = m + 1 := ⟨k - 1, by omega⟩
    simp only [spec_l1New.l0]
    rw [if_pos (by omega)]
    split
    · try rw [if_pos h0]
      rw [wrap_id (n := i + 1) (by omega) (by omega)]
      exact ih k _ (i + 1) (by omega) (by omega) (by omega) (by omega)
    · exact ⟨_, rfl⟩
theorem new_ok (b : List Int) (hb : b.length ≤ 1048576) (k : Nat) (hk : 1048576 < k) : ∃ h, spec_l1New.f k b = some (b, 0, h) := by
  unfold spec_l1New.f
  exact new_loop b hb b.length k _ 0 (by omega) (by omega) (by omega) (by omega)
theorem cur_new (b : List Int) (hb : b.length ≤ 1048576) (h : Int) : Cur b 0 h := ⟨by omega, by omega, hb⟩
end Go.Proofs.YtoglookcmfcohaaDoor.Dr
