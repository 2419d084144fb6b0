/- A text scanned, byte by byte: the scan of a path's text is the path. Rows of segments: the last segment's own row grown. -/
import Derived.Test.YtiappobhljiknaaGreatDoorA16
import Derived.Test.YtiappobhljiknaaGreatDoorA9
import Derived.Test.YtiappobhljiknaaGreatDoorA7
namespace Go.Proofs.YtiappobhljiknaaGreatDoor
open Go.RowKit
set_option linter.unusedVariables false

/-- What a scan holds: the segments, the number under way, its digits. -/
structure Scn where
  out : List Seg
  v : Nat
  d : Nat
def refK (c : UInt8) : Int := if c = 123 then 1 else if c = 60 then 2 else if c = 40 then 3 else if c = 91 then 4 else 0
def digP (c : UInt8) : Bool := decide (48 ≤ c.toNat) && decide (c.toNat ≤ 57)
def addK (l : List Seg) (c : UInt8) : List Seg := if 0 < refK c then l ++ [⟨refK c, []⟩] else l
def addV (l : List Seg) (v : Nat) : List Seg := match l.getLast? with
  | none => l
  | some x => if v < 4294967296 ∧ x.as.length ≤ 255 then l.dropLast ++ [⟨x.kind, x.as ++ [UInt32.ofNat v]⟩] else l
def stp (σ : Scn) (c : UInt8) : Scn :=
  if 16 < σ.out.length then σ
  else if digP c then ⟨addK σ.out c, min (σ.v * 10 + (c.toNat - 48)) 8589934592, σ.d + 1⟩
  else ⟨if 0 < σ.d then addV (addK σ.out c) σ.v else addK σ.out c, 0, 0⟩
def scan (s : List UInt8) : Scn := s.foldl stp ⟨[], 0, 0⟩

theorem addK_len (l : List Seg) (c : UInt8) : (addK l c).length ≤ l.length + 1 := by
  unfold addK
  split <;> simp
theorem addV_len (l : List Seg) (v : Nat) : (addV l v).length = l.length := by
  unfold addV
  split
  · rfl
  · rename_i x hx
    have hne : l ≠ [] := fun h => by rw [h] at hx; cases hx
    have := List.length_pos_iff.2 hne
    split
    · simp
      omega
    · rfl
theorem addV_snoc (l : List Seg) (x : Seg) (v : Nat) : addV (l ++ [x]) v = if v < 4294967296 ∧ x.as.length ≤ 255 then l ++ [⟨x.kind, x.as ++ [UInt32.ofNat v]⟩] else l ++ [x] := by
  unfold addV
  simp
theorem refK_bd (c : UInt8) : 0 ≤ refK c ∧ refK c ≤ 4 := by
  unfold refK
  repeat' split
  all_goals omega
theorem refK_opn {k : Int} (h1 : 1 ≤ k) (h4 : k ≤ 4) : refK (opn k) = k := by
  obtain rfl | rfl | rfl | rfl : k = 1 ∨ k = 2 ∨ k = 3 ∨ k = 4 := by omega
  all_goals decide
theorem refK_cls (k : Int) : refK (cls k) = 0 ∧ digP (cls k) = false := by
  unfold cls
  repeat' split
  all_goals decide
theorem digP_opn (k : Int) : digP (opn k) = false := by
  unfold opn
  repeat' split
  all_goals decide
theorem refK_dig {c : UInt8} (h : digP c = true) : refK c = 0 := by
  unfold digP at h
  simp only [Bool.and_eq_true, decide_eq_true_eq] at h
  unfold refK
  have h1 : c ≠ 123 := fun he => by rw [he] at h; exact absurd h.2 (by decide)
  have h2 : c ≠ 60 := fun he => by rw [he] at h; exact absurd h.2 (by decide)
  have h3 : c ≠ 40 := fun he => by rw [he] at h; exact absurd h.1 (by decide)
  have h4 : c ≠ 91 := fun he => by rw [he] at h; exact absurd h.2 (by decide)
  rw [if_neg h1, if_neg h2, if_neg h3, if_neg h4]

/- The scan of a numeral, of a body, of a segment, of a path. -/
theorem stp_dig {l : List Seg} {v d : Nat} {c : UInt8} (hl : l.length ≤ 16) (h : digP c = true) : stp ⟨l, v, d⟩ c = ⟨l, min (v * 10 + (c.toNat - 48)) 8589934592, d + 1⟩ := by
  unfold stp addK
  rw [if_neg (by show ¬ 16 < l.length; omega), if_pos h]
  rw [refK_dig h, if_neg (by omega)]
theorem stp_end {l : List Seg} {v d : Nat} {c : UInt8} (hl : l.length ≤ 16) (h : digP c = false) (hk : refK c = 0) : stp ⟨l, v, d⟩ c = ⟨if 0 < d then addV l v else l, 0, 0⟩ := by
  unfold stp addK
  rw [if_neg (by show ¬ 16 < l.length; omega), if_neg (by rw [h]; simp)]
  rw [hk]
  simp
theorem stp_opn {l : List Seg} {k : Int} (hl : l.length ≤ 16) (h1 : 1 ≤ k) (h4 : k ≤ 4) : stp ⟨l, 0, 0⟩ (opn k) = ⟨l ++ [⟨k, []⟩], 0, 0⟩ := by
  unfold stp addK
  rw [if_neg (by show ¬ 16 < l.length; omega), if_neg (by rw [digP_opn]; simp)]
  have hk : 0 < refK (opn k) := by rw [refK_opn h1 h4]; omega
  rw [if_pos hk, refK_opn h1 h4, if_neg (by show ¬ 0 < 0; omega)]
theorem fold_num {l : List Seg} (hl : l.length ≤ 16) (u : Nat) : u < 4294967296 → ∃ d, 0 < d ∧ (Lib.decDigits u).foldl stp ⟨l, 0, 0⟩ = ⟨l, u, d⟩ := by
  induction u using Nat.strongRecOn with
  | _ u ih =>
    intro hu
    have hd : ∀ i, i < 10 → digP (UInt8.ofNat (48 + i)) = true := fun i hi => by
      unfold digP
      rw [digit_of i hi]
      simp only [Bool.and_eq_true, decide_eq_true_eq]
      omega
    by_cases h : u < 10
    · refine ⟨1, by omega, ?_⟩
      rw [Lib.decDigits_one h, List.foldl_cons, List.foldl_nil, stp_dig hl (hd u h), digit_of u h]
      congr 1
      omega
    · obtain ⟨d, h0, h1⟩ := ih (u / 10) (by omega) (by omega)
      refine ⟨d + 1, by omega, ?_⟩
      rw [Lib.decDigits, dif_neg h, List.foldl_append, h1, List.foldl_cons, List.foldl_nil, stp_dig hl (hd (u % 10) (by omega)), digit_of _ (by omega)]
      congr 1
      omega
theorem fold_one {l : List Seg} {k : Int} {ys : List UInt32} (a : UInt32) (hl : l.length < 16) (ha : ys.length ≤ 255) (c : UInt8) (hc : digP c = false) (hk : refK c = 0) :
    (asT a ++ [c]).foldl stp ⟨l ++ [⟨k, ys⟩], 0, 0⟩ = ⟨l ++ [⟨k, ys ++ [a]⟩], 0, 0⟩ := by
  have hl' : (l ++ [(⟨k, ys⟩ : Seg)]).length ≤ 16 := by simp; omega
  obtain ⟨d, h0, h1⟩ := fold_num hl' a.toNat a.toNat_lt
  unfold asT
  rw [List.foldl_append, h1, List.foldl_cons, List.foldl_nil, stp_end hl' hc hk, if_pos h0, addV_snoc, if_pos (show a.toNat < 4294967296 ∧ ys.length ≤ 255 from ⟨a.toNat_lt, ha⟩), UInt32.ofNat_toNat]
theorem fold_body {l : List Seg} {k : Int} (hl : l.length < 16) (c : UInt8) (hc : digP c = false) (hk : refK c = 0) : ∀ (bs : List UInt32) (ys : List UInt32), bs ≠ [] → ys.length + bs.length ≤ 255 →
    (Lib.join (bs.map asT) [32] ++ [c]).foldl stp ⟨l ++ [⟨k, ys⟩], 0, 0⟩ = ⟨l ++ [⟨k, ys ++ bs⟩], 0, 0⟩ := by
  intro bs
  induction bs with
  | nil => intro ys h _; exact absurd rfl h
  | cons b bs ih =>
    intro ys _ ha
    simp only [List.length_cons] at ha
    cases bs with
    | nil =>
      rw [List.map_cons, List.map_nil, Lib.join_one]
      exact fold_one b hl (by omega) c hc hk
    | cons b2 bs =>
      rw [List.map_cons, List.map_cons, join_two, List.append_assoc, List.foldl_append, fold_one b hl (by omega) 32 (by decide) (by decide)]
      have := ih (ys ++ [b]) (by simp) (by simp at ha ⊢; omega)
      rw [List.map_cons] at this
      rw [this, List.append_assoc, List.singleton_append]
theorem fold_seg {l : List Seg} {x : Seg} (hl : l.length < 16) (hx : wk x) (ha : x.as.length ≤ 255) : (segT x).foldl stp ⟨l, 0, 0⟩ = ⟨l ++ [x], 0, 0⟩ := by
  have hc := refK_cls x.kind
  rw [segT_eq, List.foldl_cons, stp_opn (by omega) hx.1 hx.2.1]
  unfold bodyT
  rw [fold_body hl _ hc.2 hc.1 x.as [] hx.2.2 (by simpa using ha)]
  rfl
theorem fold_path : ∀ (m l : List Seg), m ≠ [] → l.length + m.length ≤ 16 → (∀ x ∈ m, wk x ∧ x.as.length ≤ 255) → (pathT m).foldl stp ⟨l, 0, 0⟩ = ⟨l ++ m, 0, 0⟩ := by
  intro m
  induction m with
  | nil => intro l h; exact absurd rfl h
  | cons x m ih =>
    intro l _ hl hx
    simp only [List.length_cons] at hl
    obtain ⟨h1, h2⟩ := hx x (by simp)
    rw [pathT_cons, List.foldl_append, fold_seg (by omega) h1 h2]
    by_cases hm : m = []
    · rw [hm, if_pos rfl]
      rfl
    · rw [if_neg hm, List.foldl_cons, stp_end (by simp; omega) (by decide) (by decide), if_neg (by omega), ih _ hm (by simp; omega) (fun y hy => hx y (by simp [hy])), List.append_assoc, List.singleton_append]
theorem chk_wk2 {l : List Seg} (h : chk l = true) : ∀ x ∈ l, wk x ∧ x.as.length ≤ 255 := by
  intro x hx
  refine ⟨chk_wk h x hx, ?_⟩
  obtain ⟨j, hj, rfl⟩ := List.getElem_of_mem hx
  exact (chk_at h j hj).2.2.2.1
theorem scan_text {s : List UInt8} {l : List Seg} (h : IsText s l) : (scan s).out = l := by
  obtain ⟨h1, h2, h3⟩ := h
  unfold scan
  rw [← h3, fold_path l [] h2 (by have := chk_len h1; simpa using this) (chk_wk2 h1)]
  rfl
/-- The answer of a scan: the path, if it has the text. -/
theorem parS_scan (s : List UInt8) : parS s = if chk (scan s).out = true ∧ textS (scan s).out = ⟨s.toArray⟩ then ((scan s).out, 0) else ([], 4) := by
  by_cases hd : s = [45]
  · subst hd
    rw [parS_dash]
    have : (scan [45]).out = [] := rfl
    rw [this, if_pos ⟨rfl, rfl⟩]
  · by_cases h : ∃ l, IsText s l
    · obtain ⟨l, hl⟩ := h
      have ht : textS l = ⟨s.toArray⟩ := by
        unfold textS
        rw [if_pos hl.1, if_neg hl.2.1, hl.2.2]
      rw [parS_text hl, scan_text hl, if_pos ⟨hl.1, ht⟩]
    · rw [parS_none hd (fun l hl => h ⟨l, hl⟩), if_neg]
      rintro ⟨h1, h2⟩
      unfold textS at h2
      rw [if_pos h1] at h2
      split at h2
      · exact hd (by simpa using (congrArg (fun b => b.data.toList) h2).symm)
      · rename_i hne
        exact h ⟨_, h1, hne, by simpa using congrArg (fun b => b.data.toList) h2⟩
/-- Where the scan stands after k bytes. -/
def scanK (s : List UInt8) (k : Nat) : Scn := scan (s.take k)
theorem scanK_zero (s : List UInt8) : scanK s 0 = ⟨[], 0, 0⟩ := rfl
theorem scanK_succ (s : List UInt8) (k : Nat) (hk : k < s.length) : scanK s (k + 1) = stp (scanK s k) s[k] := by
  unfold scanK scan
  rw [List.take_succ_eq_append_getElem hk, List.foldl_append]
  rfl
theorem fold_stop : ∀ (r : List UInt8) (σ : Scn), 16 < σ.out.length → r.foldl stp σ = σ := by
  intro r
  induction r with
  | nil => intro σ _; rfl
  | cons c r ih =>
    intro σ h
    rw [List.foldl_cons]
    have : stp σ c = σ := by unfold stp; rw [if_pos h]
    rw [this]
    exact ih σ h
theorem scanK_end (s : List UInt8) (k : Nat) (h : s.length ≤ k ∨ 16 < (scanK s k).out.length) : (scan s).out = (scanK s k).out := by
  unfold scanK at h ⊢
  rcases h with h | h
  · rw [List.take_of_length_le h]
  · have : s = s.take k ++ s.drop k := (List.take_append_drop k s).symm
    conv => lhs; rw [this]
    unfold scan at h ⊢
    rw [List.foldl_append, fold_stop _ _ h]

theorem Own.formNe {α : Type} {E : Enc α} {e : TypeId} {w : World} {B : Nat} {v : Value} {l : List α} (h : Own E e w B v l) (hl : l ≠ []) : ∃ g c, v = .slice (some ⟨g, 0, none⟩) l.length c := by
  obtain ⟨xs, ⟨_, h1⟩, _⟩ := h
  rcases h1 with ⟨rfl, h0⟩ | ⟨g, cap, cur, rfl, _⟩
  · exact absurd (List.eq_nil_of_length_eq_zero h0) hl
  · exact ⟨_, _, rfl⟩
/-- A segment's cells, and its own row. -/
theorem own_lastB {w : World} {B g n c hb : Nat} {s : Seg} {ls : List (Seg × Nat)} (h : Own ESegB 24 w B (.slice (some ⟨g, 0, none⟩) n c) (ls ++ [(s, hb)])) :
    ∃ u, w.cell? ⟨g, ls.length * 2, none⟩ = some (.int .i64 s.kind) ∧ w.cell? ⟨g, ls.length * 2 + 1, none⟩ = some u ∧ -9223372036854775808 ≤ s.kind ∧ s.kind ≤ 9223372036854775807 ∧ s.as.length ≤ 16777216 ∧ Own EU32 26 w B u s.as ∧ ∀ k, u.ownBlock = some k → k ≠ g ∧ k < w.heap.size ∧ k = hb := by
  have hl : ls.length < (ls ++ [(s, hb)]).length := by simp
  have hx : (ls ++ [(s, hb)])[ls.length] = (s, hb) := by simp
  obtain ⟨cs, h3, hc⟩ := h.at0 ls.length hl
  rw [hx] at h3
  obtain ⟨c1, d1, rfl, ⟨rfl, hk1, hk2⟩, u, rfl, hm, ho, hS⟩ := h3
  have h9 : ESegB.sz = 2 := rfl
  rw [h9] at hc
  refine ⟨u, ?_, ?_, hk1, hk2, hm, own_flat.2 ⟨⟨ho.1, ?_⟩, fun _ _ => trivial⟩, fun k hk => ⟨(hS k hk).1.2.2, (hS k hk).1.2.1, (hS k hk).2⟩⟩
  · have := hc 0 _ rfl
    simpa using this
  · have := hc 1 _ rfl
    simpa using this
  · rcases ho.2 with h1 | ⟨g', cap, cur, rfl, _, h3⟩
    · exact .inl h1
    · exact .inr ⟨g', cap, cur, rfl, (hS g' rfl).1.1, h3⟩
/-- .. and the row changed. -/
theorem own_lastSet {w w2 : World} {B g n c hb hb' : Nat} {s : Seg} {ys : List UInt32} {ls : List (Seg × Nat)} {u v' : Value} (h : Own ESegB 24 w B (.slice (some ⟨g, 0, none⟩) n c) (ls ++ [(s, hb)])) (hp : ∀ p ∈ ls, p.2 < hb)
    (hu : ∀ k, u.ownBlock = some k → k ≠ g ∧ k < w.heap.size ∧ k = hb) (hg : w.grownBy w2 u.ownBlock) (hv : Own EU32 26 w2 B v' ys) (hm : ys.length ≤ 16777216) (hv9 : ∀ k, v'.ownBlock = some k → k ≠ g) (hb2 : ∀ k, v'.ownBlock = some k → k = hb') :
    Own ESegB 24 (w2.setCell ⟨g, ls.length * 2 + 1, none⟩ v') B (.slice (some ⟨g, 0, none⟩) n c) (ls ++ [(⟨s.kind, ys⟩, hb')]) := by
  have hgl := h.blockLt
  have hn := h.lenEq
  obtain ⟨xs, ho, hr⟩ := h
  have hgu : some g ≠ u.ownBlock := fun he => (hu g he.symm).1 rfl
  have ho2 : w2.ownsRow B 24 ESegB.sz (.slice (some ⟨g, 0, none⟩) n c) n xs := by
    subst hn
    refine ⟨ho.1, ?_⟩
    rcases ho.2 with ⟨h1, _⟩ | ⟨g', cap, cur, h1, h2, h3, h4⟩
    · cases h1
    · injection h1 with e1 e2 e3
      injection e1 with e1
      injection e1 with e1
      subst e1 e3
      exact .inr ⟨g, c, cur, rfl, h2, by rw [hg.block g hgl.2 hgu]; exact h3, h4⟩
  obtain ⟨o3, _⟩ := ho2.stored (ls.length * 2 + 1) v'
  have hxl : xs.length = n * 2 := by rw [ho.1, hn]; rfl
  have hnl : n = ls.length + 1 := by rw [hn]; simp
  have h9 : ESegB.sz = 2 := rfl
  refine ⟨xs.set (ls.length * 2 + 1) v', ?_, fun k y hy => ?_⟩
  · have : (ls ++ [((⟨s.kind, ys⟩ : Seg), hb')]).length = n := by rw [hnl]; simp
    rw [this]
    exact o3
  · have hbk : ∀ b, b ≠ g → (w2.setCell ⟨g, ls.length * 2 + 1, none⟩ v').heap[b]? = w2.heap[b]? := fun b hb => Below.heap_setCell _ _ _ _ (by exact hb)
    have hkn : k < ls.length + 1 := by
      have := (List.getElem?_eq_some_iff.1 hy).1
      simpa using this
    by_cases hk : k = ls.length
    · subst hk
      rw [List.getElem?_append_right (Nat.le_refl _), Nat.sub_self] at hy
      obtain rfl : ((⟨s.kind, ys⟩ : Seg), hb') = y := Option.some.inj hy
      obtain ⟨cs, h3, hc⟩ := hr ls.length (s, hb) (by rw [List.getElem?_append_right (Nat.le_refl _), Nat.sub_self]; rfl)
      obtain ⟨c1, d1, rfl, ⟨rfl, hk1, hk2⟩, _⟩ := h3
      have hw9 : rowU.R w2 (fun b => (B ≤ b ∧ b < w2.heap.size ∧ b ≠ g) ∧ b = hb') ys [v'] := ⟨v', rfl, hm, hv.rowU, fun k hk => ⟨⟨(hv.lt k hk).1, (hv.lt k hk).2, hv9 k hk⟩, hb2 k hk⟩⟩
      have hw8 := rowU.frame (w' := w2.setCell ⟨g, ls.length * 2 + 1, none⟩ v') (fun b hb => hbk b hb.1.2.2) hw9
      refine ⟨[.int .i64 s.kind, v'], ⟨[.int .i64 s.kind], [v'], rfl, ⟨rfl, hk1, hk2⟩, rowU.mono (fun b hb => ⟨⟨hb.1.1, by simpa [World.setCell] using hb.1.2.1, fun he => hb.1.2.2 (Option.some.inj he)⟩, hb.2⟩) hw8⟩, fun j q hq => ?_⟩
      rw [h9] at hc ⊢
      match j, hq with
      | 0, hq =>
        simp at hq
        subst hq
        have := hc 0 _ rfl
        simp only [Nat.add_zero] at this ⊢
        rw [List.getElem?_set_ne (by omega)]
        exact this
      | 1, hq =>
        simp at hq
        subst hq
        rw [List.getElem?_set_self (by omega)]
    · have hkl : k < ls.length := by omega
      rw [List.getElem?_append_left hkl] at hy
      obtain ⟨cs, h3, h4⟩ := hr k y (by rw [List.getElem?_append_left hkl]; exact hy)
      have hlt : y.2 < hb := hp y (List.mem_of_getElem? hy)
      have h5 : ESegO.R w (fun b => (B ≤ b ∧ b < w.heap.size ∧ b ≠ g ∧ some b ≠ u.ownBlock) ∧ b = y.2) y.1 cs := ESegO.mono (fun b hb2 => ⟨⟨hb2.1.1, hb2.1.2.1, fun he => hb2.1.2.2 (by rw [he]; rfl), fun he => by
        have := (hu b he.symm).2.2
        have := hb2.2
        omega⟩, hb2.2⟩) h3
      have h6 := ESegO.frame (w' := w2.setCell ⟨g, ls.length * 2 + 1, none⟩ v') (fun b hb2 => (hbk b hb2.1.2.2.1).trans (hg.block b hb2.1.2.1 hb2.1.2.2.2)) h5
      have hsz : w.heap.size ≤ w2.heap.size := hg.size
      refine ⟨cs, ESegO.mono (fun b hb2 => ⟨⟨hb2.1.1, by have := hb2.1.2.1; simp [World.setCell]; omega, fun he => hb2.1.2.2.1 (Option.some.inj he)⟩, hb2.2⟩) h6, fun j q hq => ?_⟩
      have h7 := h4 j q hq
      have hj : j < 2 := by
        have := ESegB.size h3
        have := (List.getElem?_eq_some_iff.1 hq).1
        omega
      rw [h9] at h7 ⊢
      rw [List.getElem?_set_ne (by omega)]
      exact h7
/-- A new segment, of no AS. -/
theorem segNone {w : World} {S : Nat → Prop} {K : Int} (h : Nat) (h1 : -9223372036854775808 ≤ K) (h2 : K ≤ 9223372036854775807) : ESegB.R w S (⟨K, []⟩, h) [.int .i64 K, .slice none 0 0] :=
  ⟨[.int .i64 K], _, rfl, ⟨rfl, h1, h2⟩, _, rfl, by simp, ⟨rfl, .inl ⟨rfl, rfl⟩⟩, fun g hg => by cases hg⟩
/-- The last segment's own row grown by one: the path behind it, its numbers in order. -/
theorem own_lastPush {w1 w2 : World} {B g n c hb : Nat} {s : Seg} {y : UInt32} {ls : List (Seg × Nat)} {u v' : Value} (h : Own ESegB 24 w1 B (.slice (some ⟨g, 0, none⟩) n c) (ls ++ [(s, hb)])) (hpw : ((ls ++ [(s, hb)]).map (·.2)).Pairwise (· < ·)) (hlt : ∀ p ∈ ls ++ [(s, hb)], p.2 < w1.heap.size)
    (hu : ∀ k, u.ownBlock = some k → k ≠ g ∧ k < w1.heap.size ∧ k = hb) (hg : w1.grownBy w2 u.ownBlock) (hv : Own EU32 26 w2 B v' (s.as ++ [y])) (hat : v'.ownBlock = u.ownBlock ∨ v'.ownBlock = some w1.heap.size) (hm : s.as.length ≤ 255) :
    ∃ hb', Own ESegB 24 (w2.setCell ⟨g, ls.length * 2 + 1, none⟩ v') B (.slice (some ⟨g, 0, none⟩) n c) (ls ++ [(⟨s.kind, s.as ++ [y]⟩, hb')]) ∧ ((ls ++ [((⟨s.kind, s.as ++ [y]⟩ : Seg), hb')]).map (·.2)).Pairwise (· < ·) ∧
      ∀ p ∈ ls ++ [((⟨s.kind, s.as ++ [y]⟩ : Seg), hb')], p.2 < (w2.setCell ⟨g, ls.length * 2 + 1, none⟩ v').heap.size := by
  have hgl := h.blockLt
  have hb0 := hlt (s, hb) (by simp)
  have hp0 : ∀ p ∈ ls, p.2 < hb := fun p hp => by
    rw [List.map_append, List.pairwise_append] at hpw
    exact hpw.2.2 p.2 (List.mem_map.2 ⟨p, hp, rfl⟩) hb (by simp)
  have hsz := hg.size
  obtain ⟨hb', hle, hl2, hb2⟩ : ∃ hb', hb ≤ hb' ∧ hb' < w2.heap.size ∧ ∀ k, v'.ownBlock = some k → k = hb' ∧ k ≠ g := by
    rcases hat with ha | ha
    · exact ⟨hb, Nat.le_refl _, by omega, fun k hk => by rw [ha] at hk; exact ⟨(hu k hk).2.2, (hu k hk).1⟩⟩
    · have hb0' : hb < w1.heap.size := hb0
      refine ⟨w1.heap.size, Nat.le_of_lt hb0', (hv.lt _ ha).2, fun k hk => ?_⟩
      rw [ha] at hk
      injection hk with hk
      exact ⟨hk.symm, by omega⟩
  refine ⟨hb', own_lastSet h hp0 hu hg hv (by simp; omega) (fun k hk => (hb2 k hk).2) (fun k hk => (hb2 k hk).1), ?_, fun p hp => ?_⟩
  · rw [List.map_append, List.pairwise_append] at hpw ⊢
    refine ⟨hpw.1, by simp, fun a ha b hb3 => ?_⟩
    have := hpw.2.2 a ha hb (by simp)
    simp at hb3
    omega
  · rw [show (w2.setCell ⟨g, ls.length * 2 + 1, none⟩ v').heap.size = w2.heap.size by simp [World.setCell]]
    rcases List.mem_append.1 hp with hp | hp
    · have := hp0 p hp
      omega
    · simp at hp
      rw [hp]
      exact hl2
/-- .. and its cell, until it is stored. -/
theorem own_lastCell {w1 w2 : World} {B g n c hb j : Nat} {ls : List (Seg × Nat)} {u u0 : Value} (h : Own ESegB 24 w1 B (.slice (some ⟨g, 0, none⟩) n c) ls) (x1 : w1.cell? ⟨g, j, none⟩ = some u0)
    (hu : ∀ k, u.ownBlock = some k → k ≠ g ∧ k < w1.heap.size ∧ k = hb) (hg : w1.grownBy w2 u.ownBlock) : w2.cell? ⟨g, j, none⟩ = some u0 ∧ w2.frozen? ⟨g, j, none⟩ = false := by
  have hb := hg.block g h.blockLt.2 (fun he => (hu g he.symm).1 rfl)
  refine ⟨?_, ?_⟩
  · rw [World.cell?_of_block (w := w1) (a := ⟨g, j, none⟩) hb]; exact x1
  · rw [frozen_frame hb]; exact h.thaw j
/-- A new last one with a greater number. -/
theorem own_newB {ls : List (Seg × Nat)} {x : Seg} {C D : Nat} (hp : (ls.map (·.2)).Pairwise (· < ·)) (hl : ∀ p ∈ ls, p.2 < C) (hC : C < D) : ((ls ++ [(x, C)]).map (·.2)).Pairwise (· < ·) ∧ ∀ p ∈ ls ++ [(x, C)], p.2 < D := by
  refine ⟨?_, fun p hm => ?_⟩
  · rw [List.map_append, List.pairwise_append]
    refine ⟨hp, by simp, fun a ha b hb => ?_⟩
    obtain ⟨p, hm, rfl⟩ := List.mem_map.1 ha
    have := hl p hm
    simp at hb
    omega
  · rcases List.mem_append.1 hm with hm | hm
    · have := hl p hm
      omega
    · simp at hm
      rw [hm]
      exact hC
end Go.Proofs.YtiappobhljiknaaGreatDoor
