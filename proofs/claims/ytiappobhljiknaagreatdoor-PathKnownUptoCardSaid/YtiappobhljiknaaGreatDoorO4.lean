/- Arguments opened: what the form's reading of a type gives, as the words of Base say it; the bound on what is read is used throughout. The arguments of chapter 4's laws, opened. -/
import Derived.Test.YtiappobhljiknaaGreatDoorRows
import Derived.Test.YtiappobhljiknaaGreatDoorBase
import Derived.ProofKit
import Derived.Deep.Slices
import Derived.Test.YtiappobhljiknaaGreatDoorA4
namespace Go.Proofs.YtiappobhljiknaaGreatDoor
open Go.RowKit Go.ChangeShapes Go.WideShapes Go.Deep
set_option linter.unusedVariables false

theorem bulk_one {H : Type} (d : DataW H) : 1 ≤ Rows.uptoBulk d := by
  cases d with
  | lit l => cases l <;> simp [Rows.uptoBulk]
  | nil => simp [Rows.uptoBulk]
  | ptr d => simp [Rows.uptoBulk]
  | slice elems spare => simp [Rows.uptoBulk]
  | agg parts => simp [Rows.uptoBulk]
  | iface t d => simp [Rows.uptoBulk]
  | map entries => simp [Rows.uptoBulk]
  | held h => simp [Rows.uptoBulk]
theorem bulk_part {H : Type} {d : DataW H} {l : List (DataW H)} (h : d ∈ l) : Rows.uptoBulk d ≤ Rows.uptoBulkAll l := by
  induction l with
  | nil => cases h
  | cons x r ih =>
    simp only [Rows.uptoBulkAll]
    rcases List.mem_cons.1 h with e | e
    · subst e; omega
    · have := ih e; omega
theorem bulk_len {H : Type} (l : List (DataW H)) : l.length ≤ Rows.uptoBulkAll l := by
  induction l with
  | nil => simp [Rows.uptoBulkAll]
  | cons x r ih => have := bulk_one x; simp only [Rows.uptoBulkAll, List.length_cons]; omega

/-- What is read as type T reads as E says. -/
def Opens {α : Type} (P : Program) (T : TypeId) (E : Enc α) : Prop :=
  P.cellsOf T = E.sz ∧ ∀ {H : Type} (enc : TypeId × Value → H) (W : World) (fuel : Nat) (cs : List Value) (x : DataW H × List MemPlace), DataW.trod enc P W 0 (fun _ => true) true fuel T cs = some x → Rows.uptoBulk x.1 ≤ 1048576 →
    ∃ y, E.R W (fun b => b < W.heap.size) y cs

theorem list_of {α : Type} : ∀ (n : Nat) (Q : Nat → α → Prop), (∀ i, i < n → ∃ x, Q i x) → ∃ l : List α, l.length = n ∧ ∀ i x, l[i]? = some x → Q i x
  | 0, Q, _ => ⟨[], rfl, fun i x h => by simp at h⟩
  | n + 1, Q, h => by
    obtain ⟨l, hl, hq⟩ := list_of n Q fun i hi => h i (by omega)
    obtain ⟨x, hx⟩ := h n (by omega)
    refine ⟨l ++ [x], by simp [hl], fun i y hy => ?_⟩
    rcases Nat.lt_or_ge i n with hi | hi
    · rw [List.getElem?_append_left (by omega)] at hy
      exact hq i y hy
    · rw [List.getElem?_append_right (by omega)] at hy
      have : i - l.length = 0 := by
        rcases Nat.eq_zero_or_pos (i - l.length) with h | h
        · exact h
        · rw [List.getElem?_eq_none (by simp; omega)] at hy; cases hy
      rw [this] at hy
      simp at hy
      subst hy
      obtain rfl : i = n := by omega
      exact hx

section
variable {P : Program} {T : TypeId}
theorem opens_i64 (h : P.underlying T = some (.int .i64)) (hc : P.cellsOf T = 1) : Opens P T EI64 := by
  refine ⟨hc, fun enc W fuel cs x hx _ => ?_⟩
  obtain ⟨n, rfl, _, hw⟩ := DataW.trod_int h hx
  have : -9223372036854775808 ≤ n ∧ n ≤ 9223372036854775807 := by simpa [Lit.wf, IntKind.min, IntKind.max, IntKind.signed, IntKind.bits] using hw
  exact ⟨n, rfl, this⟩
theorem opens_u32 (h : P.underlying T = some (.int .u32)) (hc : P.cellsOf T = 1) : Opens P T EU32 := by
  refine ⟨hc, fun enc W fuel cs x hx _ => ?_⟩
  obtain ⟨n, rfl, _, hw⟩ := DataW.trod_int h hx
  have : 0 ≤ n ∧ n ≤ 4294967295 := by simpa [Lit.wf, IntKind.min, IntKind.max, IntKind.signed, IntKind.bits] using hw
  refine ⟨UInt32.ofNat n.toNat, ?_, trivial⟩
  have : ((UInt32.ofNat n.toNat).toNat : Int) = n := by rw [UInt32.toNat_ofNat']; omega
  show [Value.int .u32 n] = [Value.int .u32 _]
  rw [this]
theorem opens_u8 (h : P.underlying T = some (.int .u8)) (hc : P.cellsOf T = 1) : Opens P T EU8 := by
  refine ⟨hc, fun enc W fuel cs x hx _ => ?_⟩
  obtain ⟨n, rfl, _, hw⟩ := DataW.trod_int h hx
  have : 0 ≤ n ∧ n ≤ 255 := by simpa [Lit.wf, IntKind.min, IntKind.max, IntKind.signed, IntKind.bits] using hw
  refine ⟨UInt8.ofNat n.toNat, ?_, trivial⟩
  have : ((UInt8.ofNat n.toNat).toNat : Int) = n := by rw [UInt8.toNat_ofNat']; omega
  show [Value.int .u8 n] = [Value.int .u8 _]
  rw [this]
theorem opens_str (h : P.underlying T = some .string) (hc : P.cellsOf T = 1) : Opens P T EStr := by
  refine ⟨hc, fun enc W fuel cs x hx _ => ?_⟩
  obtain ⟨s, rfl, _, hs⟩ := DataW.trod_string h hx
  exact ⟨s, rfl, hs⟩
theorem slice_opens {α : Type} {E : Enc α} {e : TypeId} (h : P.underlying T = some (.slice e)) (hE : Opens P e E) (hsz : 0 < E.sz) {H : Type} {enc : TypeId × Value → H} {W : World} {fuel : Nat} {cs : List Value} {x : DataW H × List MemPlace}
    (hx : DataW.trod enc P W 0 (fun _ => true) true fuel T cs = some x) (hb : Rows.uptoBulk x.1 ≤ 1048576) : ∃ (l : List α) (a : Option Addr) (c : Nat), cs = [.slice a l.length c] ∧ l.length ≤ c ∧ l.length ≤ 1048576 ∧ Sl E W (fun b => b < W.heap.size) a l := by
  rcases open_slice h hx with ⟨rfl, _⟩ | ⟨a, len, cap, m, n, D, Pl, rfl, _, hl, _, hm, rfl, hi⟩
  · exact ⟨[], none, 0, rfl, Nat.zero_le _, Nat.zero_le _, Sl.nil⟩
  · simp only [if_true] at hm
    subst hm
    rw [hE.1] at hi
    have hbulk : Rows.uptoBulkAll ((List.range len).map D) ≤ 1048575 := by
      simp only [Rows.uptoBulk] at hb
      omega
    have hlen : len ≤ 1048575 := by have := bulk_len ((List.range len).map D); simp at this; omega
    have each : ∀ i, i < len → ∃ y : α, ∃ cs', E.R W (fun b => b < W.heap.size) y cs' ∧ ∀ j u, cs'[j]? = some u → W.cell? (a.add (i * E.sz + j)) = some u := by
      intro i hil
      obtain ⟨cs', hc, ht⟩ := hi i (by omega)
      have hpart : Rows.uptoBulk (D i) ≤ 1048575 := Nat.le_trans (bulk_part (List.mem_map.2 ⟨i, by simpa using hil, rfl⟩)) hbulk
      obtain ⟨y, hy⟩ := hE.2 enc W n cs' _ ht (by simp only; omega)
      obtain ⟨_, hcl, hat⟩ := World.cells?_some hc
      refine ⟨y, cs', hy, fun j u hu => ?_⟩
      have hj : j < E.sz := by
        rcases Nat.lt_or_ge j E.sz with h | h
        · exact h
        · rw [List.getElem?_eq_none (by omega)] at hu; cases hu
      have := hat j hj
      rw [add_add] at this
      rw [this, hu]
    obtain ⟨l, hll, hlq⟩ := list_of len _ each
    refine ⟨l, some a, m, by rw [hll], by omega, by omega, ?_⟩
    rcases Nat.eq_zero_or_pos len with h0 | h0
    · exact .inl (List.eq_nil_of_length_eq_zero (by omega))
    · obtain ⟨cs0, hr0, hc0⟩ := hlq 0 l[0] (by rw [List.getElem?_eq_getElem])
      have hs0 := E.size hr0
      have hcell0 := hc0 0 (cs0[0]'(by omega)) (by rw [List.getElem?_eq_getElem])
      obtain ⟨b, off, spot⟩ := a
      have hspot : spot = none := by simpa [Addr.add] using World.cell?_spot hcell0
      subst hspot
      refine .inr ⟨b, off, rfl, ?_, fun k y hy => ?_⟩
      · have := World.block_lt_of_cell? W _ hcell0
        rw [add_lit] at this
        exact this
      · obtain ⟨cs', hr, hc⟩ := hlq k y hy
        refine ⟨cs', hr, fun j u hu => ?_⟩
        have := hc j u hu
        rw [add_lit] at this
        rw [Nat.add_assoc]
        exact this
theorem opens_slice {α : Type} {E : Enc α} {e : TypeId} (h : P.underlying T = some (.slice e)) (hc : P.cellsOf T = 1) (hE : Opens P e E) (hsz : 0 < E.sz) : Opens P T E.slice := by
  refine ⟨hc, fun enc W fuel cs x hx hb => ?_⟩
  obtain ⟨l, a, c, rfl, _, hl, hs⟩ := slice_opens h hE hsz hx hb
  exact ⟨l, a, c, rfl, by omega, hs⟩

/-- A struct's fields from number i on, which lies at cell off. -/
def OpensF {α : Type} (P : Program) (fs : Array Field) (tot i off : Nat) (E : Enc α) : Prop :=
  ∀ (H : Type) (enc : TypeId × Value → H) (W : World) (n : Nat) (cs : List Value) (xs : List (DataW H × List MemPlace)), cs.length = tot → Rows.uptoBulkAll (xs.map (·.1)) ≤ 1048576 → xs.length = fs.size →
    (∀ (j : Nat) (f : Field), fs[j]? = some f → DataW.trod enc P W 0 (fun _ => true) true n f.type ((cs.drop f.offset).take (P.cellsOf f.type)) = xs[j]?) → ∃ y, E.R W (fun b => b < W.heap.size) y (cs.drop off)
theorem field_opens {α : Type} {E : Enc α} {fs : Array Field} {i : Nat} {f : Field} (hf : fs[i]? = some f) (hE : Opens P f.type E) {H : Type} {enc : TypeId × Value → H} {W : World} {n : Nat} {cs : List Value} {xs : List (DataW H × List MemPlace)}
    (hb : Rows.uptoBulkAll (xs.map (·.1)) ≤ 1048576) (hx : xs.length = fs.size)
    (h : ∀ (j : Nat) (f : Field), fs[j]? = some f → DataW.trod enc P W 0 (fun _ => true) true n f.type ((cs.drop f.offset).take (P.cellsOf f.type)) = xs[j]?) : ∃ y, E.R W (fun b => b < W.heap.size) y ((cs.drop f.offset).take (P.cellsOf f.type)) := by
  have hi : i < xs.length := by rw [hx]; exact (Array.getElem?_eq_some_iff.1 hf).1
  have h1 := h i f hf
  rw [List.getElem?_eq_getElem hi] at h1
  exact hE.2 enc W n _ _ h1 (Nat.le_trans (bulk_part (List.mem_map.2 ⟨xs[i], List.getElem_mem hi, rfl⟩)) hb)
theorem opensF_last {α : Type} {E : Enc α} {fs : Array Field} {tot i off : Nat} {f : Field} (hf : fs[i]? = some f) (ho : f.offset = off) (hE : Opens P f.type E) (ht : off + E.sz = tot) : OpensF P fs tot i off E := by
  intro H enc W n cs xs hcl hb hx h
  obtain ⟨y, hy⟩ := field_opens hf hE hb hx h
  refine ⟨y, ?_⟩
  rw [ho, hE.1, List.take_of_length_le (by simp; omega)] at hy
  exact hy
theorem opensF_cons {α β : Type} {E : Enc α} {F : Enc β} {fs : Array Field} {tot i off : Nat} {f : Field} (hf : fs[i]? = some f) (ho : f.offset = off) (hE : Opens P f.type E) (hF : OpensF P fs tot (i + 1) (off + E.sz) F) : OpensF P fs tot i off (E.pair F) := by
  intro H enc W n cs xs hcl hb hx h
  obtain ⟨y, hy⟩ := field_opens hf hE hb hx h
  obtain ⟨z, hz⟩ := hF _ enc W n cs xs hcl hb hx h
  refine ⟨(y, z), (cs.drop off).take E.sz, cs.drop (off + E.sz), ?_, ?_, hz⟩
  · rw [← List.drop_drop, List.take_append_drop]
  · rw [ho, hE.1] at hy; exact hy
theorem opens_struct {α : Type} {E : Enc α} {fs : Array Field} (h : P.underlying T = some (.struct fs)) (hc : P.cellsOf T = E.sz) (hF : OpensF P fs E.sz 0 0 E) : Opens P T E := by
  refine ⟨hc, fun enc W fuel cs x hx hb => ?_⟩
  obtain ⟨xs, n, _, rfl, hcl, hxl, hall⟩ := DataW.trod_struct h hx
  have := hF _ enc W n cs xs (by rw [hcl, hc]) (by simp only [Rows.uptoBulk] at hb; omega) hxl hall
  simpa using this
theorem opens_map {α β : Type} {E : Enc α} (h : Opens P T E) (f : β → α) (g : α → β) (hfg : ∀ x, f (g x) = x) : Opens P T (E.map f) := by
  refine ⟨h.1, fun enc W fuel cs x hx hb => ?_⟩
  obtain ⟨y, hy⟩ := h.2 enc W fuel cs x hx hb
  exact ⟨g y, by show E.R W _ (f (g y)) cs; rw [hfg]; exact hy⟩
end
open Go.RowKit
theorem opens_u32_ : Opens Tryz.prog 26 EU32 := opens_u32 Tryz.underlying26 (by kernel_rfl)
theorem opens_u32s : Opens Tryz.prog 22 EU32.slice := opens_slice Tryz.underlying22 (by kernel_rfl) opens_u32_ (by decide)
theorem opens_int : Opens Tryz.prog 3 EI64 := opens_i64 Tryz.underlying3 (by kernel_rfl)
set_option maxRecDepth 100000 in
theorem opens_ESeg : Opens Tryz.prog 24 ESeg :=
  opens_map (opens_struct Tryz.underlying24 (by kernel_rfl) (opensF_cons rfl rfl opens_int (opensF_last rfl rfl opens_u32s rfl))) _ (fun p => ⟨p.1, p.2⟩) (fun _ => rfl)
end Go.Proofs.YtiappobhljiknaaGreatDoor
