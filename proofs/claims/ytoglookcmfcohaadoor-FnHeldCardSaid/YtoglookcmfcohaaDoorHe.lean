/- What is held is what was sent and not taken yet: the laws FnHeld and FnExactWentText, about numbers and lists alone. -/
import Derived.Test.YtoglookcmfcohaaDoorWt
import Derived.Test.YtoglookcmfcohaaDoorDr
import Derived.Test.YtoglookcmfcohaaDoorP7
namespace Go.Proofs.YtoglookcmfcohaaDoor.He
open Go.RowKit Go.Proofs.YtoglookcmfcohaaDoor.P Go.Proofs.YtoglookcmfcohaaDoorW.PrintWords Go.Proofs.YtoglookcmfcohaaDoorW.PrintLast Go.Proofs.YtoglookcmfcohaaDoor.Wt Go.Proofs.YtoglookcmfcohaaDoor.Dr

theorem take_succ_eq (a b : List Int) (i : Nat) (ha : i < a.length) (hb : i < b.length) : (a.take (i + 1) = b.take (i + 1)) ↔ (a.take i = b.take i ∧ a[i] = b[i]) := by
  rw [List.take_succ_eq_append_getElem ha, List.take_succ_eq_append_getElem hb]
  constructor
  · intro h
    have := List.append_inj h (by simp; omega)
    exact ⟨this.1, by simpa using this.2⟩
  · rintro ⟨h1, h2⟩
    rw [h1, h2]
theorem equal_loop (a b : List Int) (hl : a.length = b.length) (hb : a.length ≤ 17592186044416) : ∀ (d k i : Nat), a.length - i = d → i ≤ a.length → a.take i = b.take i → d < k →
    slices_Equal_int_int.l0 k a b (a.length : Int) (i : Int) = some (decide (a = b)) := by
  intro d
  induction d with
  | zero =>
    intro k i hd hi ht hk
    obtain ⟨k, rfl⟩ : ∃ m, k = m + 1 := ⟨k - 1, by omega⟩
    simp only [slices_Equal_int_int.l0]
    rw [if_neg (by omega)]
    rw [List.take_of_length_le (by omega), List.take_of_length_le (by omega)] at ht
    simp [ht]
  | succ d ih =>
    intro k i hd hi ht hk
    obtain ⟨k, rfl⟩ : ∃ m, k = m + 1 := ⟨k - 1, by omega⟩
    have h1 : i < a.length := by omega
    have h2 : i < b.length := by omega
    simp only [slices_Equal_int_int.l0]
    rw [if_pos (by omega), if_pos (by omega), if_pos (by omega), if_pos (by omega), rd_lt a i h1, rd_lt b i h2]
    by_cases he : a[i] = b[i]
    · rw [if_pos he, Wt.wrap_id (by omega) (by omega)]
      exact ih k (i + 1) (by omega) (by omega) ((take_succ_eq a b i h1 h2).2 ⟨ht, he⟩) (by omega)
    · rw [if_neg he]
      have : a ≠ b := fun e => he (by subst e; rfl)
      simp [this]
theorem equal_eq (a b : List Int) (hb : a.length ≤ 17592186044416) (k : Nat) (hk : a.length < k) : slices_Equal_int_int.f k a b = some (decide (a = b)) := by
  unfold slices_Equal_int_int.f
  by_cases h : a.length = b.length
  · rw [if_pos (by omega)]
    exact equal_loop a b h hb a.length k 0 (by omega) (by omega) rfl hk
  · rw [if_neg (by omega)]
    have : a ≠ b := fun e => h (by rw [e])
    simp [this]
theorem same_loop (a b : List Int) (hl : a.length = b.length) (hb : a.length ≤ 17592186044416) : ∀ (d k i : Nat), a.length - i = d → i ≤ a.length → a.take i = b.take i → d < k →
    laws_sameInts.l0 k a b (i : Int) = some (decide (a = b)) := by
  intro d
  induction d with
  | zero =>
    intro k i hd hi ht hk
    obtain ⟨k, rfl⟩ : ∃ m, k = m + 1 := ⟨k - 1, by omega⟩
    simp only [laws_sameInts.l0]
    rw [if_neg (by omega)]
    rw [List.take_of_length_le (by omega), List.take_of_length_le (by omega)] at ht
    simp [ht]
  | succ d ih =>
    intro k i hd hi ht hk
    obtain ⟨k, rfl⟩ : ∃ m, k = m + 1 := ⟨k - 1, by omega⟩
    have h1 : i < a.length := by omega
    have h2 : i < b.length := by omega
    simp only [laws_sameInts.l0]
    rw [if_pos (by omega), if_pos (by omega), if_pos (by omega), rd_lt a i h1, rd_lt b i h2]
    by_cases he : a[i] = b[i]
    · rw [if_pos he, Wt.wrap_id (by omega) (by omega)]
      exact ih k (i + 1) (by omega) (by omega) ((take_succ_eq a b i h1 h2).2 ⟨ht, he⟩) (by omega)
    · rw [if_neg he]
      have : a ≠ b := fun e => he (by subst e; rfl)
      simp [this]
theorem same_eq (a b : List Int) (hb : a.length ≤ 17592186044416) (k : Nat) (hk : a.length < k) : laws_sameInts.f k a b = some (decide (a = b)) := by
  unfold laws_sameInts.f
  by_cases h : a.length = b.length
  · rw [if_pos (by omega)]
    exact same_loop a b h hb a.length k 0 (by omega) (by omega) rfl hk
  · rw [if_neg (by omega)]
    have : a ≠ b := fun e => h (by rw [e])
    simp [this]
/-- Is a the beginning of b? -/
def bg (a b : List Int) : Bool := decide (a.length ≤ b.length ∧ a = b.take a.length)
theorem begins_eq (a b : List Int) (hb : a.length ≤ 17592186044416) (k : Nat) (hk : a.length < k) : impl_Begins.f k a b = some (bg a b) := by
  unfold impl_Begins.f bg
  by_cases h : a.length ≤ b.length
  · rw [if_pos h, equal_eq a _ hb k hk]
    simp [h]
  · rw [if_neg h]
    simp [h]
theorem sbegins_loop (a b : List Int) (ha : a.length ≤ 17592186044416) : ∀ (d k i : Nat), min a.length b.length - i = d → i ≤ min a.length b.length → a.take i = b.take i → 2 * d + 1 < k →
    spec_Begins.l0 k a b (i : Int) = some (bg a b) := by
  intro d
  induction d with
  | zero =>
    intro k i hd hi ht hk
    obtain ⟨k, rfl⟩ : ∃ m, k = m + 2 := ⟨k - 2, by omega⟩
    have fin : spec_Begins.j1 (k + 1) a b (i : Int) false = some (bg a b) := by
      simp only [spec_Begins.j1]
      rw [if_neg (by decide)]
      unfold bg
      congr 1
      rw [decide_eq_decide]
      constructor
      · intro h
        have hle : a.length ≤ b.length := by omega
        refine ⟨hle, ?_⟩
        rw [List.take_of_length_le (l := a) (by omega)] at ht
        rw [ht, List.length_take]
        congr 1
        omega
      · rintro ⟨h, _⟩
        omega
    simp only [spec_Begins.l0]
    by_cases h1 : (i : Int) < (a.length : Int)
    · rw [if_pos h1, show decide ((i : Int) < (b.length : Int)) = false from by simp; omega]
      exact fin
    · rw [if_neg h1]
      exact fin
  | succ d ih =>
    intro k i hd hi ht hk
    obtain ⟨k, rfl⟩ : ∃ m, k = m + 2 := ⟨k - 2, by omega⟩
    have h1 : i < a.length := by omega
    have h2 : i < b.length := by omega
    simp only [spec_Begins.l0]
    rw [if_pos (by omega), show decide ((i : Int) < (b.length : Int)) = true from by simp; omega]
    simp only [spec_Begins.j1]
    rw [if_pos trivial, if_pos (by omega), if_pos (by omega), if_pos (by omega), rd_lt a i h1, rd_lt b i h2]
    by_cases he : a[i] = b[i]
    · rw [if_pos he, Wt.wrap_id (by omega) (by omega)]
      exact ih k (i + 1) (by omega) (by omega) ((take_succ_eq a b i h1 h2).2 ⟨ht, he⟩) (by omega)
    · rw [if_neg he]
      unfold bg
      have : ¬ (a.length ≤ b.length ∧ a = b.take a.length) := by
        rintro ⟨hle, e⟩
        apply he
        have : a[i]? = (b.take a.length)[i]? := by rw [← e]
        rw [List.getElem?_take, if_pos h1, List.getElem?_eq_getElem h1, List.getElem?_eq_getElem h2] at this
        exact Option.some.inj this
      simp [this]
theorem sbegins_eq (a b : List Int) (ha : a.length ≤ 17592186044416) (k : Nat) (hk : 2 * a.length + 1 < k) : spec_Begins.f k a b = some (bg a b) := by
  unfold spec_Begins.f
  exact sbegins_loop a b ha (min a.length b.length) k 0 (by omega) (by omega) rfl (by omega)
/-- What is held. -/
def hd (sent taken : List Int) : List Int := if bg taken sent then sent.drop taken.length else []
theorem bg_le {a b : List Int} (h : bg a b = true) : a.length ≤ b.length := by unfold bg at h; simp at h; exact h.1
theorem copy_eq (l : List Int) (h : l.length < 17592186044416) : impl_copyInts.f l = some l := by
  unfold impl_copyInts.f
  simp [h]
theorem held_eq (s t : List Int) (hs : s.length < 17592186044416) (ht : t.length < 17592186044416) (k : Nat) (hk : t.length < k) : impl_Held.f k s t = some (hd s t) := by
  unfold impl_Held.f hd
  rw [begins_eq t s (by omega) k hk]
  simp only [Option.bind_some]
  by_cases h : bg t s = true
  · have := bg_le h
    rw [if_pos h, if_pos (by omega), if_pos (by omega), copy_eq _ (by simp; omega), if_pos h]
    rfl
  · rw [if_neg h, if_neg h]
theorem sheld_eq (s t : List Int) (hs : s.length < 17592186044416) (ht : t.length < 17592186044416) (k : Nat) (hk : 2 * t.length + 1 < k) : spec_Held.f k s t = some (hd s t) := by
  unfold spec_Held.f hd
  rw [sbegins_eq t s (by omega) k hk]
  simp only [Option.bind_some]
  by_cases h : bg t s = true
  · have := bg_le h
    rw [if_pos h, if_pos (by omega), if_pos (by omega), if_pos (by simp; omega), if_pos h]
    simp
  · rw [if_neg h, if_neg h]

theorem in64_app {l : List Int} {x : Int} (h : In64 l) (h0 : -9223372036854775808 ≤ x) (h1 : x ≤ 9223372036854775807) : In64 (l ++ [x]) := by
  intro y hy
  rcases List.mem_append.1 hy with hy | hy
  · exact h y hy
  · rw [List.mem_singleton.1 hy]
    exact ⟨h0, h1⟩
theorem in64_take {l : List Int} (n : Nat) (h : In64 l) : In64 (l.take n) := fun y hy => h y (List.mem_of_mem_take hy)
theorem draw_loop (b : List Int) : ∀ (d k : Nat) (x : Nat) (i h : Int) (s : List Int), 5 - x = d → x ≤ 5 → Cur b i h → In64 s → s.length ≤ x → d < k →
    ∃ s' t' i' h', spec_l27Draw.l0 k (x : Int) b i h s = some (s', t', i', h') ∧ In64 s' ∧ In64 t' ∧ s'.length ≤ 10 ∧ t'.length ≤ 10 := by
  intro d
  induction d with
  | zero =>
    intro k x i h s hd hx hc hs hl hk
    obtain ⟨k, rfl⟩ : ∃ m, k = m + 1 := ⟨k - 1, by omega⟩
    obtain ⟨y1, i1, h1, e1, ha1, hb1, hc1⟩ := below_pos b i h 5 hc (by omega) (by omega)
    obtain ⟨y2, i2, h2, e2, ha2, hb2, hc2⟩ := below_pos b i1 h1 ((s.length : Int) + 1) hc1 (by omega) (by omega)
    obtain ⟨y3, i3, h3, e3, hc3⟩ := once_ok b i2 h2 4 hc2 (by omega)
    obtain ⟨y4, i4, h4, e4, ha4, hb4, hc4⟩ := below_pos b i3 h3 3 hc3 (by omega) (by omega)
    simp only [spec_l27Draw.l0]
    rw [e1]
    simp only [Option.bind_some]
    rw [if_neg (by omega), Wt.wrap_id (by omega) (by omega), e2]
    simp only [Option.bind_some]
    rw [if_pos ha2, if_pos (by omega), if_pos (by simp; omega), e3]
    simp only [Option.bind_some]
    by_cases h3b : y3 = true
    · rw [if_pos h3b, e4]
      simp only [Option.bind_some]
      rw [if_pos (by simp; omega)]
      refine ⟨_, _, _, _, rfl, hs, ?_, by omega, by simp; omega⟩
      exact in64_app (in64_take _ hs) (by omega) (by omega)
    · rw [if_neg h3b]
      refine ⟨_, _, _, _, rfl, hs, ?_, by omega, by simp; omega⟩
      exact in64_take _ hs
  | succ d ih =>
    intro k x i h s hd hx hc hs hl hk
    obtain ⟨k, rfl⟩ : ∃ m, k = m + 1 := ⟨k - 1, by omega⟩
    obtain ⟨y1, i1, h1, e1, ha1, hb1, hc1⟩ := below_pos b i h 5 hc (by omega) (by omega)
    simp only [spec_l27Draw.l0]
    rw [e1]
    simp only [Option.bind_some]
    by_cases hlt : (x : Int) < y1
    · obtain ⟨y2, i2, h2, e2, ha2, hb2, hc2⟩ := below_pos b i1 h1 3 hc1 (by omega) (by omega)
      rw [if_pos hlt, e2]
      simp only [Option.bind_some]
      rw [if_pos (by omega), Wt.wrap_id (n := (x : Int) + 1) (by omega) (by omega), Wt.wrap_id (n := y2 - 1) (by omega) (by omega)]
      exact ih k (x + 1) i2 h2 (s ++ [y2 - 1]) (by omega) (by omega) hc2 (in64_app hs (by omega) (by omega)) (by simp; omega) (by omega)
    · obtain ⟨y2, i2, h2, e2, ha2, hb2, hc2⟩ := below_pos b i1 h1 ((s.length : Int) + 1) hc1 (by omega) (by omega)
      obtain ⟨y3, i3, h3, e3, hc3⟩ := once_ok b i2 h2 4 hc2 (by omega)
      obtain ⟨y4, i4, h4, e4, ha4, hb4, hc4⟩ := below_pos b i3 h3 3 hc3 (by omega) (by omega)
      rw [if_neg hlt, Wt.wrap_id (by omega) (by omega), e2]
      simp only [Option.bind_some]
      rw [if_pos ha2, if_pos (by omega), if_pos (by simp; omega), e3]
      simp only [Option.bind_some]
      by_cases h3b : y3 = true
      · rw [if_pos h3b, e4]
        simp only [Option.bind_some]
        rw [if_pos (by simp; omega)]
        refine ⟨_, _, _, _, rfl, hs, ?_, by omega, by simp; omega⟩
        exact in64_app (in64_take _ hs) (by omega) (by omega)
      · rw [if_neg h3b]
        refine ⟨_, _, _, _, rfl, hs, ?_, by omega, by simp; omega⟩
        exact in64_take _ hs
theorem drawn (b : List Int) (hb : b.length ≤ 1048576) (k : Nat) (hk : 1048580 < k) : ∃ s t, spec_DrawHeld.f k b = some (s, t) ∧ spec_DrawBegins.f k b = some (t, s) ∧ spec_DrawWentText.f k b = some (s, t) ∧ In64 s ∧ In64 t ∧ s.length ≤ 10 ∧ t.length ≤ 10 := by
  obtain ⟨h, e⟩ := new_ok b hb k (by omega)
  obtain ⟨s, t, i', h', e2, r1, r2, r3, r4⟩ := draw_loop b 5 k 0 0 h [] (by omega) (by omega) (cur_new b hb h) (fun _ hx => by cases hx) (by simp) (by omega)
  refine ⟨s, t, ?_, ?_, ?_, r1, r2, r3, r4⟩
  · unfold spec_DrawHeld.f spec_l27Draw.f
    rw [e]
    simp only [Option.bind_some]
    rw [show ((0 : Nat) : Int) = 0 from rfl] at e2
    rw [e2]
    rfl
  · unfold spec_DrawBegins.f spec_l27Draw.f
    rw [e]
    simp only [Option.bind_some]
    rw [show ((0 : Nat) : Int) = 0 from rfl] at e2
    rw [e2]
    rfl
  · unfold spec_DrawWentText.f spec_l27Draw.f
    rw [e]
    simp only [Option.bind_some]
    rw [show ((0 : Nat) : Int) = 0 from rfl] at e2
    rw [e2]
    rfl
theorem bg_refl (a : List Int) : bg a a = true := by unfold bg; simp
theorem bg_nil (a : List Int) : bg [] a = true := by unfold bg; simp
theorem end_ok (s t : List Int) (hs : s.length ≤ 10) (ht : t.length ≤ 10) (k : Nat) (hk : 100 < k) : laws_FnHeld.j0 k (hd s t) false s t = some true := by
  obtain ⟨k, rfl⟩ : ∃ m, k = m + 1 := ⟨k - 1, by omega⟩
  simp only [laws_FnHeld.j0]
  rw [if_neg (by decide), begins_eq t s (by omega) k (by omega)]
  simp only [Option.bind_some]
  by_cases h : bg t s = true
  · have hle := bg_le h
    have hh : hd s t = s.drop t.length := by unfold hd; rw [if_pos h]
    rw [if_pos h, hh, if_pos (by simp; omega), if_pos (by simp; omega)]
    simp only [List.nil_append]
    rw [same_eq _ s (by simp; omega) k (by simp; omega)]
    have : t ++ s.drop t.length = s := by
      unfold bg at h
      simp at h
      conv => lhs; arg 1; rw [h.2]
      exact List.take_append_drop _ _
    simp [this]
  · have hh : hd s t = [] := by unfold hd; rw [if_neg h]
    rw [if_neg h, hh]
    rfl
theorem held_law : laws_FnHeld.Pure := by
  intro l _ _ _
  obtain ⟨k, hk⟩ : ∃ k : Nat, k = 4000000 := ⟨_, rfl⟩
  refine ⟨k, ?_⟩
  unfold laws_FnHeld.f laws_big.f
  simp only [Option.bind_some]
  by_cases hb : l.length ≤ 1048576
  · obtain ⟨s, t, e1, e2, e3, r1, r2, r3, r4⟩ := drawn l hb k (by omega)
    rw [if_neg (by simp; omega), e1]
    simp only [Option.bind_some]
    rw [held_eq s t (by omega) (by omega) k (by omega)]
    simp only [Option.bind_some]
    rw [e2]
    simp only [Option.bind_some]
    rw [e3]
    simp only [Option.bind_some]
    have hl : (hd s t).length ≤ 10 := by unfold hd; split <;> simp; omega
    rw [sheld_eq s t (by omega) (by omega) k (by omega)]
    simp only [Option.bind_some]
    rw [same_eq _ _ (by omega) k (by omega)]
    simp only [Option.bind_some, decide_true, if_true]
    rw [begins_eq t s (by omega) k (by omega)]
    simp only [Option.bind_some]
    rw [sbegins_eq t s (by omega) k (by omega)]
    simp only [Option.bind_some, bne_self_eq_false]
    rw [if_neg (by decide), implWent_eq s t r1 r2 (by omega) (by omega) k (by omega)]
    simp only [Option.bind_some]
    rw [specWent_eq s t r1 r2 (by omega) (by omega) k (by omega)]
    simp only [Option.bind_some, if_true]
    rw [begins_eq t t (by omega) k (by omega), bg_refl]
    simp only [Option.bind_some, if_true]
    rw [begins_eq [] s (by simp) k (by simp; omega), bg_nil]
    simp only [Option.bind_some, Bool.not_true]
    exact end_ok s t r3 r4 k (by omega)
  · rw [if_pos (by simp; omega)]

theorem toInts_loop (l : List Int) (hl : l.length ≤ 17592186044416) : ∀ (d k i : Nat), l.length - i = d → i ≤ l.length → d < k →
    laws_toIntS.l0 k l (l.take i ++ List.replicate (l.length - i) 0) (i : Int) = some l := by
  intro d
  induction d with
  | zero =>
    intro k i hd hi hk
    obtain ⟨k, rfl⟩ : ∃ m, k = m + 1 := ⟨k - 1, by omega⟩
    simp only [laws_toIntS.l0]
    rw [if_neg (by omega), List.take_of_length_le (by omega), show l.length - i = 0 from by omega]
    simp
  | succ d ih =>
    intro k i hd hi hk
    obtain ⟨k, rfl⟩ : ∃ m, k = m + 1 := ⟨k - 1, by omega⟩
    have h1 : i < l.length := by omega
    simp only [laws_toIntS.l0]
    rw [if_pos (by omega), if_pos (by omega), if_pos (by simp; omega), Wt.wrap_id (by omega) (by omega), rd_lt l i h1]
    have e : (l.take i ++ List.replicate (l.length - i) 0).set ((i : Int)).toNat l[i] = l.take (i + 1) ++ List.replicate (l.length - (i + 1)) 0 := by
      rw [Int.toNat_natCast, show l.length - i = (l.length - (i + 1)) + 1 from by omega, List.replicate_succ]
      rw [List.set_append_right _ _ (by simp; omega)]
      simp [Nat.min_eq_left (Nat.le_of_lt h1)]
      rw [List.take_succ_eq_append_getElem h1, List.append_assoc]
      rfl
    rw [e]
    exact ih k (i + 1) (by omega) (by omega) (by omega)
theorem toInts_eq (l : List Int) (hl : l.length ≤ 17592186044416) (k : Nat) (hk : l.length < k) : laws_toIntS.f k l = some l := by
  unfold laws_toIntS.f
  rw [if_pos (by omega), if_pos (by omega)]
  have := toInts_loop l hl l.length k 0 (by omega) (by omega) hk
  simpa using this
theorem eqInts_loop (a : List Int) (hb : a.length ≤ 17592186044416) : ∀ (d k i : Nat), a.length - i = d → i ≤ a.length → d < k → laws_eqIntS.l0 k a a (i : Int) = some true := by
  intro d
  induction d with
  | zero =>
    intro k i hd hi hk
    obtain ⟨k, rfl⟩ : ∃ m, k = m + 1 := ⟨k - 1, by omega⟩
    simp only [laws_eqIntS.l0]
    rw [if_neg (by omega)]
  | succ d ih =>
    intro k i hd hi hk
    obtain ⟨k, rfl⟩ : ∃ m, k = m + 1 := ⟨k - 1, by omega⟩
    simp only [laws_eqIntS.l0]
    rw [if_pos (by omega), if_pos (by omega), if_pos (by omega), if_pos trivial, Wt.wrap_id (by omega) (by omega)]
    exact ih k (i + 1) (by omega) (by omega) (by omega)
theorem eqInts_refl (a : List Int) (hb : a.length ≤ 17592186044416) (k : Nat) (hk : a.length < k) : laws_eqIntS.f k a a = some true := by
  unfold laws_eqIntS.f
  rw [if_pos rfl]
  exact eqInts_loop a hb a.length k 0 (by omega) (by omega) hk
/-- FnExactWentText, about lists alone. -/
theorem exact_law (a b : List Int) (ha : In64 a) (hb : In64 b) (hla : a.length ≤ 17592186044416) (hlb : b.length ≤ 17592186044416) : ∃ k, laws_FnExactWentText.f k a b = some true := by
  obtain ⟨k, hk⟩ : ∃ k : Nat, k = 4000000 := ⟨_, rfl⟩
  refine ⟨k, ?_⟩
  unfold laws_FnExactWentText.f laws_szWent.f laws_szIntS.f
  rw [Wt.wrap_id (n := 1048576 - (a.length : Int)) (by omega) (by omega)]
  by_cases h1 : a.length ≤ 1048576
  · rw [if_neg (by omega)]
    simp only [Option.bind_some]
    rw [if_neg (by omega), Wt.wrap_id (by omega) (by omega)]
    by_cases h2 : a.length + b.length ≤ 1048576
    · rw [if_neg (by omega)]
      simp only [Option.bind_some]
      rw [if_neg (by omega)]
      simp only [Option.bind_some]
      rw [if_neg (by omega)]
      have ht : laws_toWent.f k a b = some (a, b) := by
        unfold laws_toWent.f
        rw [toInts_eq a (by omega) k (by omega)]
        simp only [Option.bind_some]
        rw [toInts_eq b (by omega) k (by omega)]
        rfl
      rw [ht]
      simp only [Option.bind_some]
      rw [specWent_eq a b ha hb (by omega) (by omega) k (by omega)]
      simp only [Option.bind_some]
      rw [implWent_eq a b ha hb (by omega) (by omega) k (by omega)]
      simp only [Option.bind_some, if_true]
      unfold laws_eqWent.f
      rw [eqInts_refl a (by omega) k (by omega)]
      simp only [Option.bind_some, if_true]
      rw [eqInts_refl b (by omega) k (by omega)]
      simp
    · rw [if_pos (by omega)]
      simp
  · rw [if_pos (by omega)]
    simp
end Go.Proofs.YtoglookcmfcohaaDoor.He
