/- The numerals and the texts of what went through a channel, as plain lists: the reference's digits and the library's are one. -/
import Derived.Test.YtoglookcmfcohaaDoorP1
import Derived.Test.YtoglookcmfcohaaDoorP2
import Derived.Lib.ItoaNum
namespace Go.Proofs.YtoglookcmfcohaaDoor.Wt
open Go.RowKit Go.Proofs.YtoglookcmfcohaaDoor.P Go.Proofs.YtoglookcmfcohaaDoorW.PrintWords Go.Proofs.YtoglookcmfcohaaDoorW.PrintLast

theorem rd_nat (l : List Int) (i : Nat) : rd l (i : Int) = l.getD i 0 := by simp [rd]
theorem rd_lt (l : List Int) (i : Nat) (h : i < l.length) : rd l (i : Int) = l[i] := by rw [rd_nat]; simp [h]
theorem wrap_id {n : Int} (h0 : -9223372036854775808 ≤ n) (h1 : n ≤ 9223372036854775807) : wrap64 n = n := by unfold wrap64; omega
theorem ba_size (l : List UInt8) : (⟨l.toArray⟩ : ByteArray).size = l.length := by show l.toArray.size = _; simp
theorem ba_app (a b : List UInt8) : (⟨a.toArray⟩ : ByteArray) ++ ⟨b.toArray⟩ = ⟨(a ++ b).toArray⟩ := by
  apply ByteArray.ext
  simp
theorem str_one (d : Int) : strOfNums [d] = ⟨[UInt8.ofNat d.toNat].toArray⟩ := by simp [strOfNums]

theorem tdiv_neg (x : Int) (h : x < 0) : Int.tdiv x 10 = -((-x) / 10) := by
  have : Int.tdiv x 10 = -(Int.tdiv (-x) 10) := by rw [Int.neg_tdiv, Int.neg_neg]
  rw [this, Int.tdiv_eq_ediv_of_nonneg (by omega)]
theorem tdiv10 (x : Int) : ∃ q, Int.tdiv x 10 = q ∧ Int.tmod x 10 = x - 10 * q ∧ (0 ≤ x → q = x / 10) ∧ (x < 0 → q = -((-x) / 10)) :=
  ⟨_, rfl, Int.tmod_def x 10, fun h => Int.tdiv_eq_ediv_of_nonneg h, fun h => tdiv_neg x h⟩

/-- What a number's text is. -/
def dig (n : Int) : List UInt8 := Lib.itoa n
theorem nDigits_le : ∀ (b u : Nat), u < 10 ^ b → 1 ≤ b → Lib.nDigits u ≤ b
  | 0, _, _, h => by omega
  | b + 1, u, h, _ => by
    rw [Lib.nDigits]
    split
    · omega
    · rename_i hu
      have hb : 1 ≤ b := by
        rcases b with _ | b
        · simp at h
          omega
        · omega
      have := nDigits_le b (u / 10) (by rw [Nat.pow_succ] at h; omega) hb
      omega
theorem dig_len {n : Int} (h0 : -9223372036854775808 ≤ n) (h1 : n ≤ 9223372036854775807) : (dig n).length ≤ 20 := by
  unfold dig Lib.itoa
  split
  · have := nDigits_le 19 n.natAbs (by omega) (by omega)
    rw [List.length_cons, Lib.decDigits_length]
    omega
  · have := nDigits_le 19 n.toNat (by omega) (by omega)
    rw [Lib.decDigits_length]
    omega

theorem digit_of {u : Nat} : UInt8.ofNat ((wrap64 (48 + ((u % 10 : Nat) : Int))) % 256).toNat = UInt8.ofNat (48 + u % 10) := by
  rw [wrap_id (by omega) (by omega)]
  congr 1
  omega

theorem l2_round (k : Nat) (x : Int) (neg : Bool) (out : List UInt8) (hx : x ≠ 0) (h0 : -9223372036854775808 ≤ x) (h1 : x ≤ 9223372036854775807) (ho : out.length ≤ 1000) :
    spec_l2Digits.l0 (k + 1) x neg ⟨out.toArray⟩ = spec_l2Digits.l0 k (Int.tdiv x 10) neg ⟨(UInt8.ofNat (48 + x.natAbs % 10) :: out).toArray⟩ := by
  obtain ⟨q, eq, em, hp, hn⟩ := tdiv10 x
  rw [eq]
  have hw : wrap64 q = q := wrap_id (by omega) (by omega)
  simp only [spec_l2Digits.l0]
  rw [em, eq]
  rw [if_neg hx, hw]
  by_cases hm : x - 10 * q < 0
  · have e : wrap64 (-(x - 10 * q)) = ((x.natAbs % 10 : Nat) : Int) := by rw [wrap_id (by omega) (by omega)]; omega
    rw [if_pos hm, e]
    simp only [Option.bind_some]
    rw [str_one, digit_of, ba_app, ba_size, ba_size, if_pos (by simp; omega)]
    rfl
  · have e : x - 10 * q = ((x.natAbs % 10 : Nat) : Int) := by omega
    rw [if_neg hm, e]
    simp only [Option.bind_some]
    rw [str_one, digit_of, ba_app, ba_size, ba_size, if_pos (by simp; omega)]
    rfl

theorem l2_end (k : Nat) (neg : Bool) (out : List UInt8) (ho : out.length ≤ 1000) :
    spec_l2Digits.l0 (k + 1) 0 neg ⟨out.toArray⟩ = some ⟨((if neg = true then [45] else []) ++ out).toArray⟩ := by
  simp only [spec_l2Digits.l0]
  rw [if_pos trivial]
  cases neg with
  | false => simp
  | true =>
    rw [if_pos rfl, if_pos (by rw [ba_size]; omega), if_pos rfl]
    exact congrArg some (ba_app [45] out)

theorem l2_loop (neg : Bool) : ∀ (u k : Nat) (x : Int) (out : List UInt8), x.natAbs = u → x ≠ 0 → -9223372036854775808 ≤ x → x ≤ 9223372036854775807 → out.length + Lib.nDigits u ≤ 500 → Lib.nDigits u < k →
    spec_l2Digits.l0 k x neg ⟨out.toArray⟩ = some ⟨((if neg = true then [45] else []) ++ (Lib.decDigits u ++ out)).toArray⟩ := by
  intro u
  induction u using Nat.strongRecOn with
  | _ u ih =>
    intro k x out hu hx h0 h1 ho hk
    obtain ⟨k, rfl⟩ : ∃ m, k = m + 1 := ⟨k - 1, by omega⟩
    rw [l2_round k x neg out hx h0 h1 (by omega)]
    obtain ⟨q, eq, em, hp, hn⟩ := tdiv10 x
    rw [eq]
    have ht : q.natAbs = u / 10 := by omega
    by_cases hs : u < 10
    · rw [show q = 0 from by omega]
      rw [Lib.nDigits_small hs] at hk ho
      obtain ⟨k, rfl⟩ : ∃ m, k = m + 1 := ⟨k - 1, by omega⟩
      rw [l2_end k neg _ (by simp; omega), Lib.decDigits_one hs, hu, Nat.mod_eq_of_lt hs]
      rfl
    · have hnn : Lib.nDigits u = Lib.nDigits (u / 10) + 1 := by rw [Lib.nDigits, dif_neg hs]
      rw [ih (u / 10) (by omega) k q _ ht (by omega) (by omega) (by omega) (by simp; omega) (by omega), hu]
      have hd : Lib.decDigits u = Lib.decDigits (u / 10) ++ [UInt8.ofNat (48 + u % 10)] := by rw [Lib.decDigits, dif_neg hs]
      rw [hd, List.append_assoc]
      rfl

theorem l2_eq (k : Nat) (n : Int) (h0 : -9223372036854775808 ≤ n) (h1 : n ≤ 9223372036854775807) (hk : 30 ≤ k) : spec_l2Digits.f k n = some ⟨(dig n).toArray⟩ := by
  unfold spec_l2Digits.f
  by_cases hn : n = 0
  · subst hn
    rw [if_pos rfl]
    have : dig 0 = [48] := by unfold dig Lib.itoa; rw [if_neg (by omega), Lib.decDigits_one (by decide)]; rfl
    rw [this]
  · rw [if_neg hn]
    have hb := nDigits_le 19 n.natAbs (by omega) (by omega)
    have := l2_loop (decide (n < 0)) n.natAbs k n [] rfl hn h0 h1 (by simp; omega) (by omega)
    rw [show (⟨#[]⟩ : ByteArray) = ⟨([] : List UInt8).toArray⟩ from rfl, this, List.append_nil]
    unfold dig Lib.itoa
    by_cases hs : n < 0
    · rw [if_pos (by simpa using hs), if_pos hs]; rfl
    · rw [if_neg (by simpa using hs), if_neg hs, show n.toNat = n.natAbs from by omega]; rfl

theorem digits_eq (n : Int) (h0 : -9223372036854775808 ≤ n) (h1 : n ≤ 9223372036854775807) : impl_digits.f n = some ⟨(dig n).toArray⟩ := by
  unfold impl_digits.f strconv_Itoa.f
  rw [if_pos ⟨h0, h1⟩]
  rfl

/-- All numbers are those of 64 bits. -/
def In64 (l : List Int) : Prop := ∀ x ∈ l, -9223372036854775808 ≤ x ∧ x ≤ 9223372036854775807
/-- Each number with a blank ahead of it. -/
def tail (l : List Int) : List UInt8 := l.flatMap fun n => 32 :: dig n
theorem tail_len : ∀ (l : List Int), In64 l → (tail l).length ≤ 21 * l.length
  | [], _ => by simp [tail]
  | n :: l, h => by
    have h1 := dig_len (h n List.mem_cons_self).1 (h n List.mem_cons_self).2
    have h2 := tail_len l (fun x hx => h x (List.mem_cons_of_mem _ hx))
    have : tail (n :: l) = 32 :: dig n ++ tail l := rfl
    rw [this]
    simp
    omega
theorem tail_drop (l : List Int) (i : Nat) (h : i < l.length) : tail (l.drop i) = 32 :: (dig l[i] ++ tail (l.drop (i + 1))) := by
  rw [List.drop_eq_getElem_cons h]
  rfl

theorem words_loop (l : List Int) (hl : In64 l) (hn : l.length ≤ 1048576) : ∀ (d k i : Nat) (out : List UInt8), l.length - i = d → i ≤ l.length → out.length + 21 * d ≤ 100000000 → d < k →
    impl_words.l0 k ⟨out.toArray⟩ l (l.length : Int) (i : Int) = some ⟨(out ++ tail (l.drop i)).toArray⟩ := by
  intro d
  induction d with
  | zero =>
    intro k i out hd hi ho hk
    obtain ⟨k, rfl⟩ : ∃ m, k = m + 1 := ⟨k - 1, by omega⟩
    simp only [impl_words.l0]
    rw [if_neg (by omega), List.drop_eq_nil_of_le (by omega)]
    simp [tail]
  | succ d ih =>
    intro k i out hd hi ho hk
    obtain ⟨k, rfl⟩ : ∃ m, k = m + 1 := ⟨k - 1, by omega⟩
    have hlt : i < l.length := by omega
    have hin := hl l[i] (List.getElem_mem hlt)
    have hdl := dig_len hin.1 hin.2
    simp only [impl_words.l0]
    rw [if_pos (by omega), if_pos (by omega), if_pos (by omega), rd_lt l i hlt, digits_eq _ hin.1 hin.2]
    simp only [Option.bind_some]
    rw [show (⟨#[32]⟩ : ByteArray) = ⟨[(32 : UInt8)].toArray⟩ from rfl, ba_app, ba_app, ba_size, ba_size, ba_size, if_pos (by omega), if_pos (by simp; omega), wrap_id (by omega) (by omega)]
    have := ih k (i + 1) (out ++ ([32] ++ dig l[i])) (by omega) (by omega) (by simp; omega) (by omega)
    rw [show ((i : Int) + 1) = ((i + 1 : Nat) : Int) from by omega, this, tail_drop l i hlt]
    simp
theorem words_eq (l : List Int) (hl : In64 l) (hn : l.length ≤ 1048576) (w : List UInt8) (hw : w.length ≤ 100) (k : Nat) (hk : 1048577 < k) :
    impl_words.f k ⟨w.toArray⟩ l = some ⟨(w ++ tail l).toArray⟩ := by
  unfold impl_words.f
  have := words_loop l hl hn l.length k 0 w (by omega) (by omega) (by omega) (by omega)
  simpa using this

def sentB : List UInt8 := [115, 101, 110, 116]
def takenB : List UInt8 := [116, 97, 107, 101, 110]
/-- What a Went's text is. -/
def wentT (a b : List Int) : List UInt8 := sentB ++ tail a ++ [32] ++ (takenB ++ tail b)
theorem implWent_eq (a b : List Int) (ha : In64 a) (hb : In64 b) (hna : a.length ≤ 1048576) (hnb : b.length ≤ 1048576) (k : Nat) (hk : 1048577 < k) :
    impl_WentText.f k a b = some ⟨(wentT a b).toArray⟩ := by
  unfold impl_WentText.f
  have h1 := words_eq a ha hna sentB (by decide) k hk
  have h2 := words_eq b hb hnb takenB (by decide) k hk
  have l1 := tail_len a ha
  have l2 := tail_len b hb
  rw [show (⟨#[115, 101, 110, 116]⟩ : ByteArray) = ⟨sentB.toArray⟩ from rfl, h1]
  simp only [Option.bind_some]
  rw [if_pos (by rw [ba_size]; simp [sentB]; omega), show (⟨#[116, 97, 107, 101, 110]⟩ : ByteArray) = ⟨takenB.toArray⟩ from rfl, h2]
  simp only [Option.bind_some]
  rw [show (⟨#[32]⟩ : ByteArray) = ⟨[(32 : UInt8)].toArray⟩ from rfl, ba_app, ba_app, ba_size, ba_size, if_pos (by simp [sentB, takenB]; omega)]
  rfl

theorem spec_loop1 (a b : List Int) (hl : In64 b) (hn : b.length ≤ 1048576) : ∀ (d k i : Nat) (out : List UInt8), b.length - i = d → i ≤ b.length → out.length + 21 * d ≤ 100000000 → d + 31 < k →
    spec_WentText.l1 k ⟨out.toArray⟩ (i : Int) a b = some ⟨(out ++ tail (b.drop i)).toArray⟩ := by
  intro d
  induction d with
  | zero =>
    intro k i out hd hi ho hk
    obtain ⟨k, rfl⟩ : ∃ m, k = m + 1 := ⟨k - 1, by omega⟩
    simp only [spec_WentText.l1]
    rw [if_neg (by omega), List.drop_eq_nil_of_le (by omega)]
    simp [tail]
  | succ d ih =>
    intro k i out hd hi ho hk
    obtain ⟨k, rfl⟩ : ∃ m, k = m + 1 := ⟨k - 1, by omega⟩
    have hlt : i < b.length := by omega
    have hin := hl b[i] (List.getElem_mem hlt)
    have hdl := dig_len hin.1 hin.2
    simp only [spec_WentText.l1]
    rw [if_pos (by omega), if_pos (by rw [ba_size]; omega), if_pos (by omega), rd_lt b i hlt, l2_eq k _ hin.1 hin.2 (by omega)]
    simp only [Option.bind_some]
    rw [show (⟨#[32]⟩ : ByteArray) = ⟨[(32 : UInt8)].toArray⟩ from rfl, ba_app, ba_app, ba_size, ba_size, if_pos (by simp; omega), wrap_id (by omega) (by omega)]
    have := ih k (i + 1) ((out ++ [32]) ++ dig b[i]) (by omega) (by omega) (by simp; omega) (by omega)
    rw [show ((i : Int) + 1) = ((i + 1 : Nat) : Int) from by omega, this, tail_drop b i hlt]
    simp
theorem spec_loop0 (a b : List Int) (hl : In64 a) (hn : a.length ≤ 1048576) (hb : In64 b) (hnb : b.length ≤ 1048576) : ∀ (d k i : Nat) (out : List UInt8), a.length - i = d → i ≤ a.length → out.length + 21 * d ≤ 50000000 → d + 1048640 < k →
    spec_WentText.l0 k ⟨out.toArray⟩ (i : Int) a b = some ⟨(out ++ tail (a.drop i) ++ ([32] ++ takenB) ++ tail b).toArray⟩ := by
  intro d
  induction d with
  | zero =>
    intro k i out hd hi ho hk
    obtain ⟨k, rfl⟩ : ∃ m, k = m + 1 := ⟨k - 1, by omega⟩
    simp only [spec_WentText.l0]
    rw [if_neg (by omega), List.drop_eq_nil_of_le (by omega), if_pos (by rw [ba_size]; omega)]
    rw [show (⟨#[32, 116, 97, 107, 101, 110]⟩ : ByteArray) = ⟨([32] ++ takenB).toArray⟩ from rfl, ba_app]
    have := spec_loop1 a b hb hnb b.length k 0 (out ++ ([32] ++ takenB)) (by omega) (by omega) (by simp [takenB]; omega) (by omega)
    rw [show ((0 : Nat) : Int) = 0 from rfl] at this
    rw [this]
    simp [tail]
  | succ d ih =>
    intro k i out hd hi ho hk
    obtain ⟨k, rfl⟩ : ∃ m, k = m + 1 := ⟨k - 1, by omega⟩
    have hlt : i < a.length := by omega
    have hin := hl a[i] (List.getElem_mem hlt)
    have hdl := dig_len hin.1 hin.2
    simp only [spec_WentText.l0]
    rw [if_pos (by omega), if_pos (by rw [ba_size]; omega), if_pos (by omega), rd_lt a i hlt, l2_eq k _ hin.1 hin.2 (by omega)]
    simp only [Option.bind_some]
    rw [show (⟨#[32]⟩ : ByteArray) = ⟨[(32 : UInt8)].toArray⟩ from rfl, ba_app, ba_app, ba_size, ba_size, if_pos (by simp; omega), wrap_id (by omega) (by omega)]
    have := ih k (i + 1) ((out ++ [32]) ++ dig a[i]) (by omega) (by omega) (by simp; omega) (by omega)
    rw [show ((i : Int) + 1) = ((i + 1 : Nat) : Int) from by omega, this, tail_drop a i hlt]
    simp
theorem specWent_eq (a b : List Int) (ha : In64 a) (hb : In64 b) (hna : a.length ≤ 1048576) (hnb : b.length ≤ 1048576) (k : Nat) (hk : 3000000 < k) :
    spec_WentText.f k a b = some ⟨(wentT a b).toArray⟩ := by
  unfold spec_WentText.f
  have := spec_loop0 a b ha hna hb hnb a.length k 0 sentB (by omega) (by omega) (by simp [sentB]; omega) (by omega)
  rw [show (⟨#[115, 101, 110, 116]⟩ : ByteArray) = ⟨sentB.toArray⟩ from rfl]
  rw [show ((0 : Nat) : Int) = 0 from rfl] at this
  rw [this]
  simp [wentT]
end Go.Proofs.YtoglookcmfcohaaDoor.Wt
