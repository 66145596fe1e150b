/- Arguments of a law opened: what is read of a value, kind by kind, with what is known of its numbers and lengths. -/
import Derived.Test.YtoglookcmfcohaaDoorWWords
import Derived.ChangeArms
import Derived.ChangeSlices
import Derived.SizedLaws
import Derived.DataElems
namespace Go.Proofs.YtoglookcmfcohaaDoor.Rd
open Go.RowKit Go.ChangeShapes Go.WideShapes Go.Proofs.YtoglookcmfcohaaDoorW.PrintWords

/-- What is read at type t is of kind d, and 'ok'. -/
structure Reads {α : Type} (P : Program) (t : TypeId) (d : Kd α) (ok : α → Prop) : Prop where
  go : ∀ {H : Type} {enc : TypeId × Value → H} {w : World} {base : Nat} {sp : Nat → Bool} {held : Bool} {fuel : Nat} {cs : List Value} {x : DataW H × List MemPlace}, DataW.trod enc P w base sp held fuel t cs = some x → (x.1.weights P t).all (· ≤ reachBytes) = true → ∃ a, d.K w a cs ∧ ok a
variable {P : Program}
theorem Reads.int {t : TypeId} {k : IntKind} (ht : P.underlying t = some (.int k)) : Reads P t (Kd.int k) (fun n => (Lit.int k n).wf = true) :=
  ⟨fun h _ => by
    obtain ⟨n, rfl, _, hw⟩ := DataW.trod_int ht h
    exact ⟨n, rfl, hw⟩⟩
theorem Reads.bool {t : TypeId} (ht : P.underlying t = some .bool) : Reads P t Kd.bool (fun _ => True) :=
  ⟨fun h _ => by
    obtain ⟨b, rfl, _⟩ := DataW.trod_bool ht h
    exact ⟨b, rfl, trivial⟩⟩
theorem all_app {l r : List Nat} (h : (l ++ r).all (· ≤ reachBytes) = true) : l.all (· ≤ reachBytes) = true ∧ r.all (· ≤ reachBytes) = true := by
  rw [List.all_append, Bool.and_eq_true] at h
  exact h
theorem weights_at {H : Type} {e : TypeId} : ∀ {ds : List (DataW H)} {i : Nat} {d : DataW H}, (DataW.weightsAll P e ds).all (· ≤ reachBytes) = true → ds[i]? = some d → (d.weights P e).all (· ≤ reachBytes) = true
  | [], i, d, _, hd => by simp at hd
  | x :: r, i, d, h, hd => by
    rw [DataW.weightsAll] at h
    have h2 := all_app h
    cases i with
    | zero => simp at hd; subst hd; exact h2.1
    | succ i => exact weights_at h2.2 (by simpa using hd)
theorem weights_each {H : Type} : ∀ {ts : List TypeId} {ds : List (DataW H)} {i : Nat} {t : TypeId} {d : DataW H}, (DataW.weightsEach P ts ds).all (· ≤ reachBytes) = true → ts[i]? = some t → ds[i]? = some d → (d.weights P t).all (· ≤ reachBytes) = true
  | [], _, i, t, d, _, ht, _ => by simp at ht
  | _ :: _, [], i, t, d, _, _, hd => by simp at hd
  | y :: ts, x :: ds, i, t, d, h, ht, hd => by
    rw [DataW.weightsEach] at h
    have h2 := all_app h
    cases i with
    | zero => simp at hd ht; subst hd ht; exact h2.1
    | succ i => exact weights_each h2.2 (by simpa using ht) (by simpa using hd)
theorem choose_list {α : Type} {Q : Nat → α → Prop} : ∀ (n : Nat), (∀ i, i < n → ∃ a, Q i a) → ∃ l : List α, l.length = n ∧ ∀ i a, l[i]? = some a → Q i a
  | 0, _ => ⟨[], rfl, fun i a h => by simp at h⟩
  | n + 1, h => by
    obtain ⟨l, hl, hq⟩ := choose_list n (fun i hi => h i (by omega))
    obtain ⟨a, ha⟩ := h n (by omega)
    refine ⟨l ++ [a], by simp [hl], fun i b hb => ?_⟩
    by_cases hi : i < n
    · exact hq i b (by rwa [List.getElem?_append_left (by omega)] at hb)
    · rw [List.getElem?_append_right (by omega)] at hb
      have : i - l.length = 0 := by
        by_cases h0 : i - l.length = 0
        · exact h0
        · rw [List.getElem?_eq_none (by simp; omega)] at hb
          cases hb
      rw [this] at hb
      simp at hb
      rw [show i = n from by omega, ← hb]
      exact ha
theorem cells_reads {w : World} {base n : Nat} {a : Addr} {cs : List Value} (h : w.cells? base a n = some cs) : cs.length = n ∧ ∀ j, j < n → w.cell? (a.add j) = cs[j]? := by
  obtain ⟨_, h1, h2⟩ := World.cells?_some h
  exact ⟨h1, h2⟩
theorem Reads.slice {α : Type} {t e : TypeId} {d : Kd α} {ok : α → Prop} {B : Nat} (ht : P.underlying t = some (.slice e)) (hc : P.cellsOf e = d.sz) (hB : P.bytesOf e = B) (r : Reads P e d ok) :
    Reads P t (Kd.slice e d) (fun l => l.length * B ≤ 140737488351232 ∧ ∀ x ∈ l, ok x) :=
  ⟨fun {H enc w base sp held fuel cs x} h hw => by
    rcases DataW.trod_slice ht h with ⟨rfl, rfl⟩ | ⟨a, len, cap, elems, rest, n, _, rfl, rfl, _, hl, hm, hlen, he, _⟩
    · exact ⟨[], ⟨none, 0, rfl, Nat.le_refl _, ⟨rfl, Nat.zero_le _, fun hj => absurd hj (Nat.lt_irrefl 0)⟩⟩, by simp, fun _ hx => by cases hx⟩
    · rw [DataW.weights, ht] at hw
      simp only [List.all_cons, Bool.and_eq_true, decide_eq_true_eq] at hw
      obtain ⟨hw1, hw2⟩ := hw
      have hw3 := (all_app hw2).1
      have key : ∀ i, i < len → ∃ v : α × List Value, d.K w v.1 v.2 ∧ ok v.1 ∧ ∀ j, j < d.sz → w.cell? ((a.add (i * d.sz)).add j) = v.2[j]? := by
        intro i hi
        have hi2 : i < elems.length := by omega
        have e1 := he i hi
        rw [List.getElem?_eq_getElem hi2] at e1
        obtain ⟨cs, hcs, htr⟩ := Option.bind_eq_some_iff.1 e1
        obtain ⟨v, hv, hok⟩ := r.go htr (weights_at hw3 (i := i) (by rw [List.getElem?_map, List.getElem?_eq_getElem hi2]; rfl))
        rw [hc] at hcs
        exact ⟨(v, cs), hv, hok, (cells_reads hcs).2⟩
      obtain ⟨l, hll, hq⟩ := choose_list len key
      refine ⟨l.map (·.1), ⟨some a, cap, by simp [hll], by simp [hll]; exact hl, ?_⟩, ?_, ?_⟩
      · refine ⟨rfl, by rw [List.length_map, hll]; unfold maxLen at hm; omega, fun _ => ⟨a, rfl, fun j p hj => ?_⟩⟩
        rw [List.getElem?_map] at hj
        obtain ⟨v, hv, rfl⟩ := Option.map_eq_some_iff.1 hj
        obtain ⟨hk, _, hcell⟩ := hq j v hv
        have hlv := d.K_len hk
        refine ⟨v.2, hlv, hk, fun i u hu => ?_⟩
        have hi : i < d.sz := by rw [← hlv]; exact (List.getElem?_eq_some_iff.1 hu).1
        rw [← Addr.add_add, hcell i hi, hu]
      · rw [List.length_map, hll]
        have : reachBytes = 140737488351232 := rfl
        have hle : elems.length * P.bytesOf e ≤ (List.map (fun x => x.1) elems).length * P.bytesOf e + (List.map (fun x => x.1) rest).length * P.bytesOf e := by rw [List.length_map]; omega
        rw [← Nat.add_mul, hB] at hle
        rw [hB] at hw1
        have : len * B = elems.length * B := by rw [hlen]
        omega
      · intro x hx
        obtain ⟨y, hy, rfl⟩ := List.mem_map.1 hx
        obtain ⟨i, hi⟩ := List.getElem?_of_mem hy
        exact (hq i y hi).2.1⟩
/-- The fields from cell o on. -/
structure RF {α : Type} (P : Program) (o : Nat) (fs : List Field) (d : Kd α) (ok : α → Prop) : Prop where
  rf : ∀ {H : Type} {enc : TypeId × Value → H} {w : World} {base : Nat} {sp : Nat → Bool} {held : Bool} {n : Nat} {cs : List Value} {xs : List (DataW H × List MemPlace)}, cs.length = o + d.sz → xs.length = fs.length →
    (∀ (i : Nat) (f : Field), fs[i]? = some f → DataW.trod enc P w base sp held n f.type ((cs.drop f.offset).take (P.cellsOf f.type)) = xs[i]?) →
    (DataW.weightsEach P (fs.map (·.type)) (xs.map (·.1))).all (· ≤ reachBytes) = true → ∃ a, d.K w a (cs.drop o) ∧ ok a
theorem RF.one {α : Type} {o : Nat} {f : Field} {d : Kd α} {ok : α → Prop} (ho : f.offset = o) (hc : P.cellsOf f.type = d.sz) (r : Reads P f.type d ok) : RF P o [f] d ok := by
  constructor
  intro H enc w base sp held n cs xs hl hx ht hw
  match xs, hx with
  | [x], _ =>
    have h0 := ht 0 f rfl
    rw [ho, hc, List.take_of_length_le (by rw [List.length_drop]; omega)] at h0
    exact r.go h0 (weights_each hw (i := 0) rfl rfl)
theorem RF.cons {α β : Type} {o : Nat} {f : Field} {fs : List Field} {a : Kd α} {b : Kd β} {oka : α → Prop} {okb : β → Prop} (ho : f.offset = o) (hc : P.cellsOf f.type = a.sz) (r : Reads P f.type a oka) (rs : RF P (o + a.sz) fs b okb) :
    RF P o (f :: fs) (Kd.pair a b) (fun x => oka x.1 ∧ okb x.2) := by
  constructor
  intro H enc w base sp held n cs xs hl hx ht hw
  match xs, hx with
  | x :: xs, hx =>
    have hsz : (Kd.pair a b).sz = a.sz + b.sz := rfl
    have h0 := ht 0 f rfl
    rw [ho, hc] at h0
    obtain ⟨u, hu, hou⟩ := r.go h0 (weights_each hw (i := 0) rfl rfl)
    obtain ⟨v, hv, hov⟩ := rs.rf (H := H) (enc := enc) (w := w) (base := base) (sp := sp) (held := held) (n := n) (cs := cs) (xs := xs) (by omega) (by simpa using hx) (fun i g hg => by simpa using ht (i + 1) g (by simpa using hg)) (by
      simp only [List.map_cons, DataW.weightsEach] at hw
      exact (all_app hw).2)
    refine ⟨(u, v), ⟨_, _, ?_, hu, hv⟩, hou, hov⟩
    rw [← List.drop_drop, List.take_append_drop]
theorem Reads.struct {α : Type} {t : TypeId} {fs : List Field} {d : Kd α} {ok : α → Prop} (ht : P.underlying t = some (.struct fs.toArray)) (hc : P.cellsOf t = d.sz) (r : RF P 0 fs d ok) : Reads P t d ok :=
  ⟨fun {H enc w base sp held fuel cs x} h hw => by
    obtain ⟨xs, n, _, rfl, hl, hx, hf⟩ := DataW.trod_struct ht h
    rw [DataW.weights, ht] at hw
    have := r.rf (H := H) (enc := enc) (w := w) (base := base) (sp := sp) (held := held) (n := n) (cs := cs) (xs := xs) (by omega) (by simpa using hx) (fun i f hi => hf i f (by simpa using hi)) hw
    simpa using this⟩
theorem Reads.iso {α β : Type} {t : TypeId} {d : Kd α} {ok : α → Prop} (f : β → α) (g : α → β) (hg : ∀ a, f (g a) = a) (r : Reads P t d ok) : Reads P t (Kd.iso d f) (fun b => ok (f b)) :=
  ⟨fun h hw => by
    obtain ⟨a, ha, hok⟩ := r.go h hw
    refine ⟨g a, ?_, by rw [hg]; exact hok⟩
    show d.K _ (f (g a)) _
    rw [hg]
    exact ha⟩
/-- A number that is one of its kind. -/
theorem wf64 {n : Int} (h : (Lit.int .i64 n).wf = true) : -9223372036854775808 ≤ n ∧ n ≤ 9223372036854775807 := by
  simp [Lit.wf, IntKind.min, IntKind.max, IntKind.bits, IntKind.signed] at h
  exact h
theorem wf8 {n : Int} (h : (Lit.int .u8 n).wf = true) : 0 ≤ n ∧ n ≤ 255 := by
  simp [Lit.wf, IntKind.min, IntKind.max, IntKind.bits, IntKind.signed] at h
  exact h
end Go.Proofs.YtoglookcmfcohaaDoor.Rd
