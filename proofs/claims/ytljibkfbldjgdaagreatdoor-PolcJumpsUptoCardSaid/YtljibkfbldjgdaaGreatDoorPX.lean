/- Addresses and prefixes as texts, plain: told, read, there and back. -/
import Derived.Test.YtljibkfbldjgdaaGreatDoorPN
import Derived.Test.YtljibkfbldjgdaaGreatDoorP1
namespace Go.Proofs.YtljibkfbldjgdaaGreatDoor
open Go.RowKit
set_option linter.unusedVariables false

def nameS (f : Int) : List UInt8 := if f = 1 then [118, 52] else if f = 2 then [118, 54] else if f = 3 then [108, 52] else if f = 4 then [118, 112, 110, 52] else if f = 5 then [118, 112, 110, 54] else []
def famN (s : List UInt8) : Int := if s = [118, 52] then 1 else if s = [118, 54] then 2 else if s = [108, 52] then 3 else if s = [118, 112, 110, 52] then 4 else if s = [118, 112, 110, 54] then 5 else 0
theorem famN_bd (s : List UInt8) : 0 ≤ famN s ∧ famN s ≤ 5 := by unfold famN; repeat' split <;> try omega
theorem famN_name {f : Int} (h1 : 1 ≤ f) (h5 : f ≤ 5) : famN (nameS f) = f := by
  rcases (show f = 1 ∨ f = 2 ∨ f = 3 ∨ f = 4 ∨ f = 5 by omega) with rfl | rfl | rfl | rfl | rfl <;> decide
theorem name_famN {s : List UInt8} (h : famN s ≠ 0) : nameS (famN s) = s := by
  unfold famN at h ⊢
  repeat' split
  all_goals first | (subst_vars; decide) | (simp_all)
theorem famN_iff {s : List UInt8} {f : Int} (h1 : 1 ≤ f) (h5 : f ≤ 5) : nameS f = s ↔ famN s = f :=
  ⟨fun h => by rw [← h, famN_name h1 h5], fun h => by rw [← h]; exact name_famN (by omega)⟩
theorem nameS_len (f : Int) : (nameS f).length ≤ 4 := by unfold nameS; repeat' split <;> try decide

/-- Two bytes as a number. -/
def pairs : List UInt8 → List Nat
  | a :: b :: r => (256 * a.toNat + b.toNat) :: pairs r
  | _ => []
def unpair (n : Nat) : List UInt8 := [UInt8.ofNat (n / 256), UInt8.ofNat n]
theorem unpair_at (a b : UInt8) : unpair (256 * a.toNat + b.toNat) = [a, b] := by
  have h1 := a.toNat_lt
  have h2 := b.toNat_lt
  unfold unpair
  congr 1
  · apply UInt8.toNat_inj.1; rw [UInt8.toNat_ofNat']; omega
  · congr 1
    apply UInt8.toNat_inj.1; rw [UInt8.toNat_ofNat']; omega
theorem pairs_le : ∀ (l : List UInt8), ∀ n ∈ pairs l, n ≤ 65535
  | [], n, h => by cases h
  | [_], n, h => by cases h
  | a :: b :: r, n, h => by
    rcases List.mem_cons.1 h with h | h
    · have h1 := a.toNat_lt
      have h2 := b.toNat_lt
      omega
    · exact pairs_le r n h
theorem pairs_length : ∀ (l : List UInt8), (pairs l).length = l.length / 2
  | [] => rfl
  | [_] => by simp [pairs]
  | a :: b :: r => by
    show (pairs r).length + 1 = (r.length + 2) / 2
    rw [pairs_length r]; omega
theorem pairs_unpair : ∀ (l : List UInt8), l.length % 2 = 0 → (pairs l).flatMap unpair = l
  | [], _ => rfl
  | [_], h => by simp at h
  | a :: b :: r, h => by
    show unpair (256 * a.toNat + b.toNat) ++ (pairs r).flatMap unpair = _
    rw [unpair_at, pairs_unpair r (by simp at h; omega)]
    rfl
theorem unpair_pairs : ∀ (l : List Nat), (∀ n ∈ l, n ≤ 65535) → pairs (l.flatMap unpair) = l
  | [], _ => rfl
  | n :: r, h => by
    have hn := h n (by simp)
    show pairs (unpair n ++ r.flatMap unpair) = _
    show (256 * (UInt8.ofNat (n / 256)).toNat + (UInt8.ofNat n).toNat) :: pairs (r.flatMap unpair) = _
    rw [unpair_pairs r (fun m hm => h m (by simp [hm])), UInt8.toNat_ofNat', UInt8.toNat_ofNat']
    congr 1
    omega
theorem pairs_at : ∀ (l : List UInt8) (k : Nat) (h : 2 * k + 1 < l.length), (pairs l)[k]? = some (256 * (l[2 * k]'(by omega)).toNat + (l[2 * k + 1]).toNat)
  | [], k, h => by simp at h
  | [_], k, h => by simp at h
  | a :: b :: r, 0, h => rfl
  | a :: b :: r, k + 1, h => by
    have := pairs_at r k (by simp at h; omega)
    show (pairs r)[k]? = _
    rw [this]
    rfl

def txt4 (a : List UInt8) : List UInt8 := Lib.join (a.map fun x => digS 10 x.toNat) [46]
def txt16 (a : List UInt8) : List UInt8 := Lib.join ((pairs a).map (digS 16)) [58]
def addrT (a : List UInt8) : List UInt8 × Int := if a.length = 4 then (txt4 a, 0) else if a.length = 16 then (txt16 a, 0) else ([], 2)
/-- All numerals of a list of words. -/
def rdAll (b most : Nat) : List (List UInt8) → Option (List Nat)
  | [] => some []
  | x :: r => match rdN b most x with
    | none => none
    | some n => match rdAll b most r with
      | none => none
      | some l => some (n :: l)
theorem rdAll_snoc (b most : Nat) (x : List UInt8) : ∀ l, rdAll b most (l ++ [x]) = match rdAll b most l with
    | none => none
    | some ns => match rdN b most x with
      | none => none
      | some n => some (ns ++ [n])
  | [] => by simp only [List.nil_append, rdAll]
  | y :: l => by
    simp only [List.cons_append, rdAll, rdAll_snoc b most x l]
    cases rdN b most y with
    | none => rfl
    | some n =>
      cases rdAll b most l with
      | none => rfl
      | some ns => cases rdN b most x <;> rfl
theorem rdAll_next {b most : Nat} {l : List (List UInt8)} {k : Nat} (hk : k < l.length) {ns : List Nat} {n : Nat} (h : rdAll b most (l.take k) = some ns) (hn : rdN b most l[k] = some n) : rdAll b most (l.take (k + 1)) = some (ns ++ [n]) := by
  rw [List.take_succ_eq_append_getElem hk, rdAll_snoc, h, hn]
theorem rdAll_bad {b most : Nat} : ∀ {l : List (List UInt8)} {x : List UInt8}, x ∈ l → rdN b most x = none → rdAll b most l = none
  | y :: l, x, hx, hn => by
    rcases List.mem_cons.1 hx with h | h
    · subst h; simp only [rdAll, hn]
    · simp only [rdAll, rdAll_bad h hn]; cases rdN b most y <;> rfl
theorem rdAll_iff {b most : Nat} (h2 : 2 ≤ b) (h16 : b ≤ 16) : ∀ {l : List (List UInt8)} {ns : List Nat}, rdAll b most l = some ns ↔ l = ns.map (digS b) ∧ ∀ n ∈ ns, n ≤ most
  | [], ns => by
    simp only [rdAll, Option.some.injEq]
    constructor
    · rintro rfl; exact ⟨rfl, fun _ h => by cases h⟩
    · rintro ⟨h, _⟩; cases ns with
      | nil => rfl
      | cons _ _ => cases h
  | x :: l, ns => by
    simp only [rdAll]
    constructor
    · intro h
      cases hx : rdN b most x with
      | none => rw [hx] at h; cases h
      | some n =>
        rw [hx] at h
        cases hl : rdAll b most l with
        | none => rw [hl] at h; cases h
        | some ms =>
          rw [hl] at h
          obtain rfl := Option.some.inj h
          have e1 := (rdN_iff h2 h16).1 hx
          have e2 := (rdAll_iff h2 h16).1 hl
          refine ⟨by rw [List.map_cons, e1.2, ← e2.1], fun m hm => ?_⟩
          rcases List.mem_cons.1 hm with rfl | hm
          · exact e1.1
          · exact e2.2 m hm
    · rintro ⟨h, hm⟩
      cases ns with
      | nil => cases h
      | cons n ms =>
        rw [List.map_cons] at h
        injection h with hx hl
        rw [(rdN_iff h2 h16).2 ⟨hm n (by simp), hx.symm⟩, (rdAll_iff h2 h16).2 ⟨hl, fun m h => hm m (by simp [h])⟩]
/-- The address of a text. -/
def addrC (s : List UInt8) : List UInt8 × Int :=
  if (spl 46 s).length = 4 then (match rdAll 10 255 (spl 46 s) with | some l => (l.map UInt8.ofNat, 0) | none => ([], 4))
  else if (spl 58 s).length = 8 then (match rdAll 16 65535 (spl 58 s) with | some l => (l.flatMap unpair, 0) | none => ([], 4))
  else ([], 4)
theorem addrC_err (s : List UInt8) : (addrC s).2 = 0 ∨ addrC s = ([], 4) := by
  unfold addrC
  split
  · split
    · exact .inl rfl
    · exact .inr rfl
  · split
    · split
      · exact .inl rfl
      · exact .inr rfl
    · exact .inr rfl
theorem map_toNat_ofNat : ∀ (l : List Nat), (∀ n ∈ l, n ≤ 255) → (l.map UInt8.ofNat).map UInt8.toNat = l
  | [], _ => rfl
  | n :: r, h => by
    have hn := h n (by simp)
    simp only [List.map_cons, map_toNat_ofNat r (fun m hm => h m (by simp [hm])), UInt8.toNat_ofNat']
    congr 1
    omega
/-- What is read as an address is told by the same text. -/
theorem addr_text {s : List UInt8} (h : (addrC s).2 = 0) : addrT (addrC s).1 = (s, 0) ∧ ((addrC s).1.length = 4 ∨ (addrC s).1.length = 16) ∧ s.length ≤ 39 := by
  unfold addrC at h ⊢
  split at h
  · rename_i h4
    rw [if_pos h4]
    cases hr : rdAll 10 255 (spl 46 s) with
    | none => rw [hr] at h; cases h
    | some l =>
      obtain ⟨e1, e2⟩ := (rdAll_iff (by decide) (by decide)).1 hr
      have hl : l.length = 4 := by rw [e1, List.length_map] at h4; exact h4
      have ht : addrT (l.map UInt8.ofNat) = (s, 0) := by
        unfold addrT
        rw [if_pos (by rw [List.length_map]; exact hl)]
        unfold txt4
        rw [show (l.map UInt8.ofNat).map (fun x => digS 10 x.toNat) = ((l.map UInt8.ofNat).map UInt8.toNat).map (digS 10) by simp, map_toNat_ofNat l e2, ← e1, spl_join]
      refine ⟨ht, .inl (by rw [List.length_map]; exact hl), ?_⟩
      have hs : s = Lib.join (l.map (digS 10)) [46] := by rw [← e1, spl_join]
      obtain ⟨a, b, c, d, rfl⟩ : ∃ a b c d, l = [a, b, c, d] := by
        match l, hl with
        | [a, b, c, d], _ => exact ⟨a, b, c, d, rfl⟩
      have hd : ∀ n ∈ [a, b, c, d], (digS 10 n).length ≤ 3 := fun n hn => digS_len (by decide) 3 n (by have := e2 n hn; omega) (by decide)
      have h1 := hd a (by simp)
      have h2 := hd b (by simp)
      have h3 := hd c (by simp)
      have h4 := hd d (by simp)
      rw [hs]
      simp only [List.map_cons, List.map_nil, join_two, Lib.join_one, List.length_append, List.length_singleton]
      omega
  · rename_i h4
    rw [if_neg h4]
    split at h
    · rename_i h8
      rw [if_pos h8]
      cases hr : rdAll 16 65535 (spl 58 s) with
      | none => rw [hr] at h; cases h
      | some l =>
        obtain ⟨e1, e2⟩ := (rdAll_iff (by decide) (by decide)).1 hr
        have hl : l.length = 8 := by rw [e1, List.length_map] at h8; exact h8
        have hlen : (l.flatMap unpair).length = 16 := by
          have := pairs_length (l.flatMap unpair)
          rw [unpair_pairs l e2, hl] at this
          have hev : ∀ m : List Nat, (m.flatMap unpair).length = 2 * m.length := by
            intro m
            induction m with
            | nil => rfl
            | cons x m ih => rw [List.flatMap_cons, List.length_append, ih]; simp [unpair]; omega
          rw [hev, hl]
        have ht : addrT (l.flatMap unpair) = (s, 0) := by
          unfold addrT
          rw [if_neg (by rw [hlen]; decide), if_pos hlen]
          unfold txt16
          rw [unpair_pairs l e2, ← e1, spl_join]
        refine ⟨ht, .inr hlen, ?_⟩
        have hs : s = Lib.join (l.map (digS 16)) [58] := by rw [← e1, spl_join]
        obtain ⟨a, b, c, d, a', b', c', d', rfl⟩ : ∃ a b c d a' b' c' d', l = [a, b, c, d, a', b', c', d'] := by
          match l, hl with
          | [a, b, c, d, a', b', c', d'], _ => exact ⟨a, b, c, d, a', b', c', d', rfl⟩
        have hd : ∀ n ∈ [a, b, c, d, a', b', c', d'], (digS 16 n).length ≤ 4 := fun n hn => digS_len (by decide) 4 n (by have := e2 n hn; omega) (by decide)
        have h1 := hd a (by simp)
        have h2 := hd b (by simp)
        have h3 := hd c (by simp)
        have h4 := hd d (by simp)
        have h5 := hd a' (by simp)
        have h6 := hd b' (by simp)
        have h7 := hd c' (by simp)
        have h8 := hd d' (by simp)
        rw [hs]
        simp only [List.map_cons, List.map_nil, join_two, Lib.join_one, List.length_append, List.length_singleton]
        omega
    · cases h
theorem join_no {c : UInt8} {sep : List UInt8} (hs : c ∉ sep) : ∀ {l : List (List UInt8)}, (∀ x ∈ l, c ∉ x) → c ∉ Lib.join l sep
  | [], _ => by simp [Lib.join]
  | [x], h => by rw [Lib.join_one]; exact h x (by simp)
  | x :: y :: r, h => by
    rw [join_two]
    intro hm
    rcases List.mem_append.1 hm with hm | hm
    · rcases List.mem_append.1 hm with hm | hm
      · exact h x (by simp) hm
      · exact hs hm
    · exact join_no hs (fun z hz => h z (by simp [List.mem_cons.1 hz])) hm
/-- There and back. -/
theorem text_addr {a : List UInt8} (h : a.length = 4 ∨ a.length = 16) : addrC (addrT a).1 = (a, 0) := by
  rcases h with h | h
  · unfold addrT
    rw [if_pos h]
    show addrC (txt4 a) = _
    have hne : ∃ x r, (a.map fun x => digS 10 x.toNat) = x :: r := by
      match a, h with
      | x :: r, _ => exact ⟨_, _, rfl⟩
    obtain ⟨x, r, hx⟩ := hne
    have hsp : spl 46 (txt4 a) = a.map fun x => digS 10 x.toNat := by
      unfold txt4
      rw [hx]
      refine join_spl 46 x r fun y hy => ?_
      rw [← hx] at hy
      obtain ⟨u, _, rfl⟩ := List.mem_map.1 hy
      exact digS_no (by decide) (by decide) _ _ (by decide)
    have hrd : rdAll 10 255 (a.map fun x => digS 10 x.toNat) = some (a.map UInt8.toNat) :=
      (rdAll_iff (by decide) (by decide)).2 ⟨by simp, fun n hn => by obtain ⟨u, _, rfl⟩ := List.mem_map.1 hn; have := u.toNat_lt; omega⟩
    unfold addrC
    rw [hsp, if_pos (by rw [List.length_map]; exact h), hrd]
    show ((a.map UInt8.toNat).map UInt8.ofNat, (0 : Int)) = _
    rw [List.map_map]
    have : (UInt8.ofNat ∘ UInt8.toNat) = id := by funext x; simp
    rw [this, List.map_id]
  · unfold addrT
    rw [if_neg (by omega), if_pos h]
    show addrC (txt16 a) = _
    have hlen : (pairs a).length = 8 := by rw [pairs_length, h]
    have hne : ∃ x r, (pairs a).map (digS 16) = x :: r := by
      cases hp : pairs a with
      | nil => rw [hp] at hlen; cases hlen
      | cons y q => exact ⟨_, _, rfl⟩
    obtain ⟨x, r, hx⟩ := hne
    have hmem : ∀ c : UInt8, (c.toNat < 48 ∨ (57 < c.toNat ∧ c.toNat < 97) ∨ 102 < c.toNat) → ∀ y ∈ (pairs a).map (digS 16), c ∉ y := fun c hc y hy => by
      obtain ⟨u, _, rfl⟩ := List.mem_map.1 hy
      exact digS_no (by decide) (by decide) _ _ hc
    have hsp : spl 58 (txt16 a) = (pairs a).map (digS 16) := by
      unfold txt16
      rw [hx]
      exact join_spl 58 x r fun y hy => hmem 58 (by decide) y (by rw [hx]; exact hy)
    have h46 : spl 46 (txt16 a) = [txt16 a] := spl_no (join_no (by decide) (hmem 46 (by decide)))
    have hrd : rdAll 16 65535 ((pairs a).map (digS 16)) = some (pairs a) := (rdAll_iff (by decide) (by decide)).2 ⟨rfl, pairs_le a⟩
    unfold addrC
    rw [h46, if_neg (by simp), hsp, if_pos (by rw [List.length_map]; exact hlen), hrd]
    show ((pairs a).flatMap unpair, (0 : Int)) = _
    rw [pairs_unpair a (by omega)]

/-- A prefix's text. -/
def textP (p : Pfx) : List UInt8 := nameS p.fam ++ ([32] ++ ((if apartS p.fam = true then digS 10 p.rd ++ [32] else []) ++ ((addrT p.addr).1 ++ ([47] ++ digS 10 p.len.toNat))))
noncomputable def textC (p : Pfx) : List UInt8 × Int := if MayP p then (textP p, 0) else ([], 2)
def errC : Pfx × Int := (zeroP, 4)
noncomputable def tailC (f : Int) (rd : Nat) (h : List UInt8) : Pfx × Int :=
  if (Lib.cut h [47]).2.2 = true then
    (match rdN 10 128 (Lib.cut h [47]).2.1 with
    | none => errC
    | some n => if (addrC (Lib.cut h [47]).1).2 = 0 ∧ MayP ⟨f, rd, (addrC (Lib.cut h [47]).1).1, n⟩ then (⟨f, rd, (addrC (Lib.cut h [47]).1).1, n⟩, 0) else errC)
  else errC
noncomputable def parseW (f : Int) (w : List (List UInt8)) : Pfx × Int :=
  if apartS f = true then (match w with
    | [r, h] => (match rdN 10 18446744073709551615 r with | some rd => tailC f rd h | none => errC)
    | _ => errC)
  else if f = 0 then errC else (match w with | [h] => tailC f 0 h | _ => errC)
noncomputable def parseC (s : List UInt8) : Pfx × Int := parseW (famN ((spl 32 s).headD [])) (spl 32 s).tail
theorem tailC_cases (f : Int) (rd : Nat) (h : List UInt8) : tailC f rd h = errC ∨ ∃ a n, 47 ∉ a ∧ h = a ++ 47 :: digS 10 n ∧ n ≤ 128 ∧ (addrC a).2 = 0 ∧ MayP ⟨f, rd, (addrC a).1, n⟩ ∧ tailC f rd h = (⟨f, rd, (addrC a).1, n⟩, 0) := by
  by_cases hm : (47 : UInt8) ∈ h
  · obtain ⟨a, b, rfl, ha⟩ := first_at hm
    unfold tailC
    rw [cut_hit ha]
    simp only [if_true]
    cases hr : rdN 10 128 b with
    | none => exact .inl rfl
    | some n =>
      obtain ⟨h1, rfl⟩ := (rdN_iff (by decide) (by decide)).1 hr
      by_cases hc : (addrC a).2 = 0 ∧ MayP ⟨f, rd, (addrC a).1, n⟩
      · exact .inr ⟨a, n, ha, rfl, h1, hc.1, hc.2, by first | exact if_pos hc | (simp only []; exact if_pos hc)⟩
      · exact .inl (if_neg hc)
  · left
    unfold tailC
    rw [cut_miss hm]
    rfl
theorem parseW_cases (f : Int) (hf : 0 ≤ f) (w : List (List UInt8)) : parseW f w = errC ∨ (f ≠ 0 ∧ ((apartS f = true ∧ ∃ rd h, rd ≤ 18446744073709551615 ∧ w = [digS 10 rd, h] ∧ parseW f w = tailC f rd h) ∨ (apartS f = false ∧ ∃ h, w = [h] ∧ parseW f w = tailC f 0 h))) := by
  unfold parseW
  cases ha : apartS f with
  | true =>
    simp only [if_true]
    match w with
    | [] => exact .inl rfl
    | [_] => exact .inl rfl
    | _ :: _ :: _ :: _ => exact .inl rfl
    | [r, h] =>
      cases hr : rdN 10 18446744073709551615 r with
      | none => exact .inl (by simp only [hr])
      | some rd =>
        obtain ⟨h1, rfl⟩ := (rdN_iff (by decide) (by decide)).1 hr
        exact .inr ⟨fun h0 => by rw [h0] at ha; exact absurd ha (by decide), .inl ⟨trivial, rd, h, h1, rfl, by simp only [hr]⟩⟩
  | false =>
    rw [if_neg (by decide)]
    by_cases h0 : f = 0
    · exact .inl (if_pos h0)
    · rw [if_neg h0]
      match w with
      | [] => exact .inl rfl
      | _ :: _ :: _ => exact .inl rfl
      | [h] => exact .inr ⟨h0, .inr ⟨rfl, h, rfl, rfl⟩⟩
theorem spl_head (s : List UInt8) : ∃ x, spl 32 s = (spl 32 s).headD [] :: (spl 32 s).tail ∧ x = s := by
  refine ⟨s, ?_, rfl⟩
  cases h : spl 32 s with
  | nil => exact absurd h (spl_ne 32 s)
  | cons x r => rfl
/-- What is read as a prefix is told by the same text. -/
theorem parse_text (s : List UInt8) : parseC s = errC ∨ ((parseC s).2 = 0 ∧ MayP (parseC s).1 ∧ (parseC s).1.rd ≤ 18446744073709551615 ∧ textP (parseC s).1 = s) := by
  obtain ⟨_, hs, _⟩ := spl_head s
  have hj := spl_join 32 s
  have hf := famN_bd ((spl 32 s).headD [])
  have hn := fun h => name_famN (s := (spl 32 s).headD []) h
  unfold parseC
  rw [hs] at hj
  generalize (spl 32 s).headD [] = nm at *
  generalize (spl 32 s).tail = w at *
  generalize famN nm = f at *
  rcases parseW_cases f hf.1 w with h | ⟨h0, ⟨ha, rd, h, hrd, rfl, he⟩ | ⟨ha, h, rfl, he⟩⟩
  · exact .inl h
  · rw [he]
    rcases tailC_cases f rd h with h1 | ⟨a, n, h1, rfl, h2, h3, h4, h5⟩
    · exact .inl h1
    · right
      rw [h5]
      refine ⟨rfl, h4, hrd, ?_⟩
      rw [← hj]
      simp only [textP, ha, if_true, hn h0, (addr_text h3).1, Int.toNat_natCast, join_two, Lib.join_one]
      simp
  · rw [he]
    rcases tailC_cases f 0 h with h1 | ⟨a, n, h1, rfl, h2, h3, h4, h5⟩
    · exact .inl h1
    · right
      rw [h5]
      refine ⟨rfl, h4, Nat.zero_le _, ?_⟩
      rw [← hj]
      simp only [textP, ha, hn h0, (addr_text h3).1, Int.toNat_natCast, join_two, Lib.join_one]
      simp
theorem addrT_no {a : List UInt8} (c : UInt8) (hc : c.toNat < 46 ∨ c.toNat = 47 ∨ (58 < c.toNat ∧ c.toNat < 97) ∨ 102 < c.toNat) : c ∉ (addrT a).1 := by
  have h1 : c ∉ ([46] : List UInt8) := fun h => by rw [List.mem_singleton.1 h] at hc; revert hc; decide
  have h2 : c ∉ ([58] : List UInt8) := fun h => by rw [List.mem_singleton.1 h] at hc; revert hc; decide
  unfold addrT
  split
  · refine join_no h1 fun x hx => ?_
    obtain ⟨u, _, rfl⟩ := List.mem_map.1 hx
    exact digS_no (by decide) (by decide) _ _ (by omega)
  · split
    · refine join_no h2 fun x hx => ?_
      obtain ⟨u, _, rfl⟩ := List.mem_map.1 hx
      exact digS_no (by decide) (by decide) _ _ (by omega)
    · simp
theorem may_fam {p : Pfx} (h : MayP p) : 1 ≤ p.fam ∧ p.fam ≤ 5 := by
  have := h.1.1
  unfold sizeS at this
  split at this
  · omega
  · split at this
    · omega
    · exact absurd rfl this
theorem may_size {p : Pfx} (h : MayP p) : p.addr.length = 4 ∨ p.addr.length = 16 := by
  have h1 := h.1.1
  have h2 := h.1.2.1
  rcases sizeS_cases p.fam with h | h | h <;> omega
theorem tail_there {p : Pfx} (h : MayP p) : tailC p.fam p.rd ((addrT p.addr).1 ++ ([47] ++ digS 10 p.len.toNat)) = (p, 0) := by
  have hs := h.1.small
  have hn : (47 : UInt8) ∉ (addrT p.addr).1 := addrT_no 47 (by decide)
  unfold tailC
  rw [List.singleton_append, cut_hit hn]
  simp only [if_true]
  rw [rdN_dig (by decide) (by decide) (by omega), text_addr (may_size h)]
  have he : (⟨p.fam, p.rd, p.addr, ((p.len.toNat : Nat) : Int)⟩ : Pfx) = p := Pfx.eq rfl rfl rfl (by show ((p.len.toNat : Nat) : Int) = p.len; omega)
  simp only [he]
  exact if_pos ⟨trivial, h⟩
/-- There and back. -/
theorem text_parse {p : Pfx} (h : MayP p) (hr : p.rd ≤ 18446744073709551615) : parseC (textP p) = (p, 0) := by
  have hf := may_fam h
  have h32 : (32 : UInt8) ∉ (addrT p.addr).1 ++ ([47] ++ digS 10 p.len.toNat) := by
    intro hm
    rcases List.mem_append.1 hm with hm | hm
    · exact addrT_no 32 (by decide) hm
    · rcases List.mem_append.1 hm with hm | hm
      · exact absurd (List.mem_singleton.1 hm) (by decide)
      · exact digS_no (by decide) (by decide) _ _ (by decide) hm
  have hnm : (32 : UInt8) ∉ nameS p.fam := by
    rcases (show p.fam = 1 ∨ p.fam = 2 ∨ p.fam = 3 ∨ p.fam = 4 ∨ p.fam = 5 by omega) with e | e | e | e | e <;> rw [e] <;> decide
  have htl := tail_there h
  unfold parseC textP
  cases ha : apartS p.fam with
  | true =>
    simp only [if_true]
    have hsp : spl 32 (nameS p.fam ++ ([32] ++ (digS 10 p.rd ++ [32] ++ ((addrT p.addr).1 ++ ([47] ++ digS 10 p.len.toNat))))) = [nameS p.fam, digS 10 p.rd, (addrT p.addr).1 ++ ([47] ++ digS 10 p.len.toNat)] := by
      rw [List.singleton_append, spl_at hnm, List.append_assoc, List.singleton_append, spl_at (digS_no (by decide) (by decide) _ _ (by decide)), spl_no h32]
    rw [hsp]
    simp only [List.headD_cons, List.tail_cons, famN_name hf.1 hf.2]
    unfold parseW
    rw [if_pos ha]
    simp only [rdN_dig (show 2 ≤ 10 by decide) (show 10 ≤ 16 by decide) hr]
    exact htl
  | false =>
    have h0 : p.rd = 0 := by
      rcases h.1.2.2.2.2 with h | h
      · exact h
      · rw [ha] at h; cases h
    rw [if_neg (by decide), List.nil_append, List.singleton_append, spl_at hnm, spl_no h32]
    simp only [List.headD_cons, List.tail_cons, famN_name hf.1 hf.2]
    unfold parseW
    rw [if_neg (by rw [ha]; decide), if_neg (by omega)]
    rw [h0] at htl
    exact htl
theorem parse_len {s : List UInt8} (h : 80 < s.length) : parseC s = errC := by
  rcases parse_text s with h1 | ⟨h1, h2, h3, h4⟩
  · exact h1
  · exfalso
    generalize (parseC s).1 = p at *
    have hs := h2.1.small
    have ha : (addrT p.addr).1.length ≤ 39 := by
      have := text_addr (may_size h2)
      exact (addr_text (s := (addrT p.addr).1) (by rw [this])).2.2
    have hl : (digS 10 p.len.toNat).length ≤ 3 := digS_len (by decide) 3 _ (by omega) (by decide)
    have hr : (digS 10 p.rd).length ≤ 20 := digS_len (by decide) 20 _ (by omega) (by decide)
    have hn := nameS_len p.fam
    rw [← h4] at h
    unfold textP at h
    simp only [List.length_append, List.length_singleton] at h
    split at h
    · simp only [List.length_append, List.length_singleton] at h
      omega
    · simp only [List.length_nil] at h
      omega
end Go.Proofs.YtljibkfbldjgdaaGreatDoor
