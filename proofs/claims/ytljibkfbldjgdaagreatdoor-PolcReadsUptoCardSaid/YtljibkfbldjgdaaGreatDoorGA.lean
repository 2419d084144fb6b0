/- Chapter 16, walks: the document's readers of words: at, originOf, number, a community of a text. Chapter 16, walks: the document's readCond. Chapter 16, walks: the document's readAction. Printed by gengc.py. Chapter 16, walks: the document's Term. Chapter 16, walks: the document's Term. The law PolcReads: is an error what it is to be; its answers spoiled; the walk. The law PolcReads, walked. -/
import Derived.Test.YtljibkfbldjgdaaGreatDoorFH
import Derived.Test.YtljibkfbldjgdaaGreatDoorS7
import Derived.Test.YtljibkfbldjgdaaGreatDoorER
import Derived.Test.YtljibkfbldjgdaaGreatDoorFQ
namespace Go.Proofs.YtljibkfbldjgdaaGreatDoor
section
section
open Go.RowKit
set_option linter.unusedVariables false

def Wds (w : World) (g o : Nat) (ws : List (List UInt8)) : Prop := ∀ k, (h : k < ws.length) → w.cell? ⟨g, o + k, none⟩ = some (.string ⟨ws[k].toArray⟩)
theorem Wds.ext {w w' : World} {g o : Nat} {ws : List (List UInt8)} (h : Wds w g o ws) (e : Ext w w') : Wds w' g o ws := fun k hk => e.cell (h k hk)
def atW (ws : List (List UInt8)) (i : Nat) : List UInt8 := ws.getD i []
set_option maxRecDepth 20000 in
theorem DAt_any (g o d : Nat) (ws : List (List UInt8)) (i : Nat) (w : World) (h : Wds w g o ws) (hl : ws.length ≤ 2000000) (hi : i ≤ 3000000) :
    Calls Tryz.prog 53 #[.slice (some ⟨g, o, none⟩) ws.length d, .int .i64 (i : Int)] w fun e w' => e = .returned (.string ⟨(atW ws i).toArray⟩) ∧ w = w' := by
  by_cases hlt : i < ws.length
  · have c := h i hlt
    have hg : atW ws i = ws[i] := by simp [atW, hlt]
    rw [hg]
    generalize ws[i] = x at *
    generalize ws.length = n at *
    clear h hg
    go_enter Tryz.func53, Tryz.ntmps53
    go_wp2
    go_ret
    exact ⟨rfl, rfl⟩
  · have hg : atW ws i = [] := by unfold atW; rw [List.getD_eq_getElem?_getD, List.getElem?_eq_none (by omega)]; rfl
    rw [hg]
    generalize ws.length = n at *
    clear h hg
    go_enter Tryz.func53, Tryz.ntmps53
    go_wp2
    go_ret
    exact ⟨rfl, rfl⟩
def originF (s : List UInt8) : Int := if s = [105, 103, 112] then 0 else if s = [101, 103, 112] then 1 else if s = [105, 110, 99, 111, 109, 112, 108, 101, 116, 101] then 2 else 3
theorem originF_n {s : List UInt8} {n : Int} (h : originN s = some n) : originF s = n ∧ 0 ≤ n ∧ n ≤ 2 := by
  unfold originN originT at h
  unfold originF
  simp only [if_pos, Int.reduceEq, if_false, (by decide : ¬ (1 : Int) = 0), (by decide : ¬ (2 : Int) = 0), (by decide : ¬ (2 : Int) = 1)] at h
  split at h
  · rename_i e; injection h with h; rw [if_pos e]; omega
  · rename_i e0
    rw [if_neg e0]
    split at h
    · rename_i e; injection h with h; rw [if_pos e]; omega
    · rename_i e1
      rw [if_neg e1]
      split at h
      · rename_i e; injection h with h; rw [if_pos e]; omega
      · cases h
theorem originF_bd (s : List UInt8) : 0 ≤ originF s ∧ originF s ≤ 3 := by unfold originF; repeat' split <;> try omega
set_option maxRecDepth 20000 in
set_option maxHeartbeats 2000000 in
theorem DOriginOf_any (s : List UInt8) (w : World) : Calls Tryz.prog 104 #[.string ⟨s.toArray⟩] w fun e w' => e = .returned (.int .i64 (originF s)) ∧ Ext w w' := by
  have k0 := DOrigin_0
  have k1 := DOrigin_1
  have k2 := DOrigin_2
  unfold originF
  replace k0 := hide k0
  replace k1 := hide k1
  replace k2 := hide k2
  by_cases h0 : s = [105, 103, 112]
  · subst h0
    rw [if_pos rfl]
    go_enter Tryz.func104, Tryz.ntmps104
    go_wp2_with fail
    refine wp_loop_rounds 1 ?_
    rw [rounds_succ]
    go_wp2_with fail
    (with_reducible refine (k0.out _).mono ?_)
    rintro e w1 ⟨rfl, he1⟩
    replace he1 := hide he1
    go_wp2_with fail
    go_ret
    exact ⟨rfl, he1.out⟩
  have b0 : ([105, 103, 112] == s) = false := beq_eq_false_iff_ne.2 fun h => h0 h.symm
  rw [if_neg h0]
  by_cases h1 : s = [101, 103, 112]
  · subst h1
    rw [if_pos rfl]
    clear h0 b0
    go_enter Tryz.func104, Tryz.ntmps104
    go_wp2_with fail
    refine wp_loop_rounds 2 ?_
    rw [rounds_succ]
    go_wp2_with fail
    (with_reducible refine (k0.out _).mono ?_)
    rintro e w1 ⟨rfl, he1⟩
    replace he1 := hide he1
    go_wp2_with fail
    rw [rounds_succ]
    go_wp2_with fail
    (with_reducible refine (k1.out _).mono ?_)
    rintro e w2 ⟨rfl, he2⟩
    replace he1 := hide (he1.out.trans he2)
    clear he2
    go_wp2_with fail
    go_ret
    exact ⟨rfl, he1.out⟩
  have b1 : ([101, 103, 112] == s) = false := beq_eq_false_iff_ne.2 fun h => h1 h.symm
  rw [if_neg h1]
  by_cases h2 : s = [105, 110, 99, 111, 109, 112, 108, 101, 116, 101]
  · subst h2
    rw [if_pos rfl]
    clear h0 b0 h1 b1
    go_enter Tryz.func104, Tryz.ntmps104
    go_wp2_with fail
    refine wp_loop_rounds 3 ?_
    rw [rounds_succ]
    go_wp2_with fail
    (with_reducible refine (k0.out _).mono ?_)
    rintro e w1 ⟨rfl, he1⟩
    replace he1 := hide he1
    go_wp2_with fail
    rw [rounds_succ]
    go_wp2_with fail
    (with_reducible refine (k1.out _).mono ?_)
    rintro e w2 ⟨rfl, he2⟩
    replace he1 := hide (he1.out.trans he2)
    clear he2
    go_wp2_with fail
    rw [rounds_succ]
    go_wp2_with fail
    (with_reducible refine (k2.out _).mono ?_)
    rintro e w3 ⟨rfl, he2⟩
    replace he1 := hide (he1.out.trans he2)
    clear he2
    go_wp2_with fail
    go_ret
    exact ⟨rfl, he1.out⟩
  have b2 : ([105, 110, 99, 111, 109, 112, 108, 101, 116, 101] == s) = false := beq_eq_false_iff_ne.2 fun h => h2 h.symm
  rw [if_neg h2]
  clear h0 h1 h2
  go_enter Tryz.func104, Tryz.ntmps104
  go_wp2_with fail
  refine wp_loop_rounds 4 ?_
  rw [rounds_succ]
  go_wp2_with fail
  (with_reducible refine (k0.out _).mono ?_)
  rintro e w1 ⟨rfl, he1⟩
  replace he1 := hide he1
  go_wp2_with fail
  rw [rounds_succ]
  go_wp2_with fail
  (with_reducible refine (k1.out _).mono ?_)
  rintro e w2 ⟨rfl, he2⟩
  replace he1 := hide (he1.out.trans he2)
  clear he2
  go_wp2_with fail
  rw [rounds_succ]
  go_wp2_with fail
  (with_reducible refine (k2.out _).mono ?_)
  rintro e w3 ⟨rfl, he2⟩
  replace he1 := hide (he1.out.trans he2)
  clear he2
  go_wp2_with fail
  rw [rounds_succ]
  go_wp2_with fail
  go_ret
  exact ⟨rfl, he1.out⟩
set_option maxRecDepth 20000 in
theorem DNumber_any (s : List UInt8) (w : World) (hs : s.length ≤ 1048576) : Calls Tryz.prog 105 #[.string ⟨s.toArray⟩] w fun e w' => ∃ x : Nat, x < 18446744073709551616 ∧ e = .returned (.int .u64 (x : Int)) ∧ (∀ n, rdN 10 4294967295 s = some n → n = x) ∧ Ext w w' := by
  have q := RRead_any 10 4294967295 (by decide) (by decide) (by decide) (by decide) s hs w
  unfold RdP at q
  rw [show ((10 : Nat) : Int) = 10 from rfl, show ((4294967295 : Nat) : Int) = 4294967295 from rfl] at q
  generalize rdN 10 4294967295 s = r at *
  generalize r.isSome = b at q
  replace q := hide q
  go_enter Tryz.func105, Tryz.ntmps105
  go_wp2_with fail
  (with_reducible refine q.out.mono ?_)
  rintro e w1 ⟨⟨x, hx, rfl, hn⟩, he⟩
  replace hx := hide hx
  replace hn := hide hn
  replace he := hide he
  go_wp2_with fail
  go_ret
  exact ⟨x, hx.out, rfl, hn.out, he.out⟩
theorem comm_spl {s : List UInt8} (h1 : s ≠ n1T) (h2 : s ≠ n2T) (h3 : s ≠ n3T) {c : UInt32} (h : commT c = s) :
    spl 58 s = [digS 10 (c.toNat / 65536), digS 10 (c.toNat % 65536)] := by
  rcases comm_cases c with ⟨_, e⟩ | ⟨_, e⟩ | ⟨_, e⟩ | e
  · exact absurd (h.symm.trans e) h1
  · exact absurd (h.symm.trans e) h2
  · exact absurd (h.symm.trans e) h3
  · rw [e] at h
    have h58 : ∀ n, (58 : UInt8) ∉ digS 10 n := fun n => digS_no (by decide) (by decide) _ 58 (by decide)
    rw [← h, spl_at (h58 _), spl_no (h58 _)]
def sp2 (P : List (List UInt8)) : Prop := ∃ a b, P = [a, b]
theorem sp2_iff {P : List (List UInt8)} : P.length = 2 → sp2 P := by
  match P with
  | [] => intro h; cases h
  | [_] => intro h; cases h
  | [a, b] => intro _; exact ⟨a, b, rfl⟩
  | _ :: _ :: _ :: _ => intro h; simp at h
set_option maxRecDepth 20000 in
set_option maxHeartbeats 4000000 in
theorem DCParse_any (s : List UInt8) (w : World) (hs : s.length ≤ 1048576) : Calls Tryz.prog 107 #[.string ⟨s.toArray⟩] w (CoR s w) := by
  have k1 := RCText_any (UInt32.ofNat 4294967041)
  have k2 := RCText_any (UInt32.ofNat 4294967042)
  have k3 := RCText_any (UInt32.ofNat 4294967043)
  rw [show (((UInt32.ofNat 4294967041).toNat : Nat) : Int) = 4294967041 by decide +kernel, (commT_n 4294967041 n1T (.inl ⟨rfl, rfl⟩)).1] at k1
  rw [show (((UInt32.ofNat 4294967042).toNat : Nat) : Int) = 4294967042 by decide +kernel, (commT_n 4294967042 n2T (.inr (.inl ⟨rfl, rfl⟩))).1] at k2
  rw [show (((UInt32.ofNat 4294967043).toNat : Nat) : Int) = 4294967043 by decide +kernel, (commT_n 4294967043 n3T (.inr (.inr ⟨rfl, rfl⟩))).1] at k3
  have hok := fun c W h he => CoR.ok (c := c) (s := s) (w := w) (w' := W) h he
  have hno := fun W h he => CoR.no (s := s) (w := w) (w' := W) h he
  have hr : ∀ (k : Nat) t, s = t → ((k = 4294967041 ∧ t = n1T) ∨ (k = 4294967042 ∧ t = n2T) ∨ (k = 4294967043 ∧ t = n3T)) → ∀ W, Ext w W → CoR s w (.returned (.tuple #[.int .u32 (k : Int), .int .i64 0])) W := fun k t h1 h2 W he => by
    obtain ⟨h3, h4⟩ := commT_n k t h2
    have := hok _ W (h3.trans h1.symm) he
    rw [h4] at this
    exact this
  generalize CoR s w = Post at *
  have B := Blk.new w 49 #[.int .u32 4294967041, .int .u32 4294967042, .int .u32 4294967043]
  have E := (Ext.refl w).alloc (Obj.cells #[.int .u32 4294967041, .int .u32 4294967042, .int .u32 4294967043] 49)
  generalize hW0 : w.alloc (Obj.cells #[.int .u32 4294967041, .int .u32 4294967042, .int .u32 4294967043] 49) = W0 at B E
  generalize hg0 : w.heap.size = g0 at B
  replace hok := hide hok
  replace hno := hide hno
  replace k1 := hide k1
  replace k2 := hide k2
  replace k3 := hide k3
  replace B := hide B
  replace E := hide E
  by_cases h1 : s = n1T
  · have hr1 := hr 4294967041 n1T h1 (.inl ⟨rfl, rfl⟩)
    clear hr
    subst h1
    replace hr1 := hide hr1
    go_enter Tryz.func107, Tryz.ntmps107
    go_wp2_with fail
    refine wp_loop_rounds 1 ?_
    rw [rounds_succ]
    have B_0 : W0.cell? ⟨g0, 0, none⟩ = some (.int .u32 4294967041) := B.out.cell 0
    have B_1 : W0.cell? ⟨g0, 1, none⟩ = some (.int .u32 4294967042) := B.out.cell 1
    have B_2 : W0.cell? ⟨g0, 2, none⟩ = some (.int .u32 4294967043) := B.out.cell 2
    go_wp2_with fail
    (with_reducible refine (k1.out _).mono ?_)
    rintro e W1 ⟨rfl, he1⟩
    replace E := hide (E.out.trans he1)
    clear B_0 B_1 B_2
    go_wp2_with fail
    try go_ret2
    exact hr1.out _ E.out
  have b1 : (n1T == s) = false := beq_eq_false_iff_ne.2 fun h => h1 h.symm
  by_cases h2 : s = n2T
  · have hr1 := hr 4294967042 n2T h2 (.inr (.inl ⟨rfl, rfl⟩))
    clear hr h1
    subst h2
    replace hr1 := hide hr1
    go_enter Tryz.func107, Tryz.ntmps107
    go_wp2_with fail
    refine wp_loop_rounds 2 ?_
    rw [rounds_succ]
    have B_0 : W0.cell? ⟨g0, 0, none⟩ = some (.int .u32 4294967041) := B.out.cell 0
    have B_1 : W0.cell? ⟨g0, 1, none⟩ = some (.int .u32 4294967042) := B.out.cell 1
    have B_2 : W0.cell? ⟨g0, 2, none⟩ = some (.int .u32 4294967043) := B.out.cell 2
    go_wp2_with fail
    (with_reducible refine (k1.out _).mono ?_)
    rintro e W1 ⟨rfl, he1⟩
    replace E := hide (E.out.trans he1)
    replace B := hide (B.out.ext he1)
    clear he1 hW0 hg0
    clear B_0 B_1 B_2
    have B_0 : W1.cell? ⟨g0, 0, none⟩ = some (.int .u32 4294967041) := B.out.cell 0
    have B_1 : W1.cell? ⟨g0, 1, none⟩ = some (.int .u32 4294967042) := B.out.cell 1
    have B_2 : W1.cell? ⟨g0, 2, none⟩ = some (.int .u32 4294967043) := B.out.cell 2
    go_wp2_with fail
    rw [rounds_succ]
    go_wp2_with fail
    (with_reducible refine (k2.out _).mono ?_)
    rintro e W2 ⟨rfl, he1⟩
    replace E := hide (E.out.trans he1)
    clear B_0 B_1 B_2
    go_wp2_with fail
    try go_ret2
    exact hr1.out _ E.out
  have b2 : (n2T == s) = false := beq_eq_false_iff_ne.2 fun h => h2 h.symm
  by_cases h3 : s = n3T
  · have hr1 := hr 4294967043 n3T h3 (.inr (.inr ⟨rfl, rfl⟩))
    clear hr h1 h2
    subst h3
    replace hr1 := hide hr1
    go_enter Tryz.func107, Tryz.ntmps107
    go_wp2_with fail
    refine wp_loop_rounds 3 ?_
    rw [rounds_succ]
    have B_0 : W0.cell? ⟨g0, 0, none⟩ = some (.int .u32 4294967041) := B.out.cell 0
    have B_1 : W0.cell? ⟨g0, 1, none⟩ = some (.int .u32 4294967042) := B.out.cell 1
    have B_2 : W0.cell? ⟨g0, 2, none⟩ = some (.int .u32 4294967043) := B.out.cell 2
    go_wp2_with fail
    (with_reducible refine (k1.out _).mono ?_)
    rintro e W1 ⟨rfl, he1⟩
    replace E := hide (E.out.trans he1)
    replace B := hide (B.out.ext he1)
    clear he1 hW0 hg0
    clear B_0 B_1 B_2
    have B_0 : W1.cell? ⟨g0, 0, none⟩ = some (.int .u32 4294967041) := B.out.cell 0
    have B_1 : W1.cell? ⟨g0, 1, none⟩ = some (.int .u32 4294967042) := B.out.cell 1
    have B_2 : W1.cell? ⟨g0, 2, none⟩ = some (.int .u32 4294967043) := B.out.cell 2
    go_wp2_with fail
    rw [rounds_succ]
    go_wp2_with fail
    (with_reducible refine (k2.out _).mono ?_)
    rintro e W2 ⟨rfl, he1⟩
    replace E := hide (E.out.trans he1)
    replace B := hide (B.out.ext he1)
    clear he1
    clear B_0 B_1 B_2
    have B_0 : W2.cell? ⟨g0, 0, none⟩ = some (.int .u32 4294967041) := B.out.cell 0
    have B_1 : W2.cell? ⟨g0, 1, none⟩ = some (.int .u32 4294967042) := B.out.cell 1
    have B_2 : W2.cell? ⟨g0, 2, none⟩ = some (.int .u32 4294967043) := B.out.cell 2
    go_wp2_with fail
    rw [rounds_succ]
    go_wp2_with fail
    (with_reducible refine (k3.out _).mono ?_)
    rintro e W3 ⟨rfl, he1⟩
    replace E := hide (E.out.trans he1)
    clear B_0 B_1 B_2
    go_wp2_with fail
    try go_ret2
    exact hr1.out _ E.out
  have b3 : (n3T == s) = false := beq_eq_false_iff_ne.2 fun h => h3 h.symm
  have hsp := fun c (h : commT c = s) => comm_spl h1 h2 h3 h
  clear hr h1 h2 h3
  have qs := fun W => RSplit58 s hs W
  have hlp := spl_len 58 s
  have qt := fun (c : UInt32) W => RCText_any c W
  generalize spl 58 s = P at *
  have ql : ∀ x ∈ P, ∀ W, Calls Tryz.prog 140 #[.string ⟨x.toArray⟩, .int .u64 10, .int .u64 65535] W (RdP 10 65535 x W) := fun x hx W => RRead_any 10 65535 (by decide) (by decide) (by decide) (by decide) x (Nat.le_trans (hlp x hx) hs) W
  unfold SpR at qs
  unfold RdP at ql
  clear hlp hs
  replace qs := hide qs
  replace qt := hide qt
  replace ql := hide ql
  replace hsp := hide hsp
  go_enter Tryz.func107, Tryz.ntmps107
  go_wp2_with fail
  refine wp_loop_rounds 4 ?_
  rw [rounds_succ]
  have B_0 : W0.cell? ⟨g0, 0, none⟩ = some (.int .u32 4294967041) := B.out.cell 0
  have B_1 : W0.cell? ⟨g0, 1, none⟩ = some (.int .u32 4294967042) := B.out.cell 1
  have B_2 : W0.cell? ⟨g0, 2, none⟩ = some (.int .u32 4294967043) := B.out.cell 2
  go_wp2_with fail
  (with_reducible refine (k1.out _).mono ?_)
  rintro e W1 ⟨rfl, he1⟩
  replace E := hide (E.out.trans he1)
  replace B := hide (B.out.ext he1)
  clear he1 hW0 hg0
  clear B_0 B_1 B_2
  have B_0 : W1.cell? ⟨g0, 0, none⟩ = some (.int .u32 4294967041) := B.out.cell 0
  have B_1 : W1.cell? ⟨g0, 1, none⟩ = some (.int .u32 4294967042) := B.out.cell 1
  have B_2 : W1.cell? ⟨g0, 2, none⟩ = some (.int .u32 4294967043) := B.out.cell 2
  go_wp2_with fail
  rw [rounds_succ]
  go_wp2_with fail
  (with_reducible refine (k2.out _).mono ?_)
  rintro e W2 ⟨rfl, he1⟩
  replace E := hide (E.out.trans he1)
  replace B := hide (B.out.ext he1)
  clear he1
  clear B_0 B_1 B_2
  have B_0 : W2.cell? ⟨g0, 0, none⟩ = some (.int .u32 4294967041) := B.out.cell 0
  have B_1 : W2.cell? ⟨g0, 1, none⟩ = some (.int .u32 4294967042) := B.out.cell 1
  have B_2 : W2.cell? ⟨g0, 2, none⟩ = some (.int .u32 4294967043) := B.out.cell 2
  go_wp2_with fail
  rw [rounds_succ]
  go_wp2_with fail
  (with_reducible refine (k3.out _).mono ?_)
  rintro e W3 ⟨rfl, he1⟩
  replace E := hide (E.out.trans he1)
  clear he1 B
  clear B_0 B_1 B_2
  go_wp2_with fail
  rw [rounds_succ]
  go_wp2_with fail
  (with_reducible refine (qs.out _).mono ?_)
  rintro e W4 ⟨he1, g, o, d, rfl, hd, hc⟩
  replace E := hide (E.out.trans he1)
  clear he1 k1 k2 k3 qs
  by_cases hp : P.length = 2
  case neg =>
    have hpf : ((P.length : Int) == 2) = false := by rw [beq_eq_false_iff_ne]; omega
    have hfin := hide (hno.out W4 (fun c h => hp (by rw [hsp.out c h]; rfl)) E.out)
    have hpt : ((P.length : Int) != 2) = true := by simp [bne, hpf]
    clear hp hc ql hsp hd
    go_wp2_with fail
    try go_ret2
    exact hfin.out
  obtain ⟨hi, lo, rfl⟩ := sp2_iff hp
  have c0 : W4.cell? ⟨g, o, none⟩ = some (.string ⟨hi.toArray⟩) := hc 0 (by simp)
  have c1 : W4.cell? ⟨g, o + 1, none⟩ = some (.string ⟨lo.toArray⟩) := hc 1 (by simp)
  have qa := ql.out hi (by simp)
  have qb := ql.out lo (by simp)
  have hx0 : ∀ c, commT c = s → rdN 10 65535 hi = some (c.toNat / 65536) ∧ rdN 10 65535 lo = some (c.toNat % 65536) := fun c h => by
    have hh := hsp.out c h
    have hlt := c.toNat_lt
    injection hh with h1 h2
    injection h2 with h2 _
    exact ⟨(rdN_iff (by decide) (by decide)).2 ⟨by omega, h1.symm⟩, (rdN_iff (by decide) (by decide)).2 ⟨by omega, h2.symm⟩⟩
  have hbd : ∀ x n, rdN 10 65535 x = some n → n ≤ 65535 := fun x n h => ((rdN_iff (by decide) (by decide)).1 h).1
  clear hc ql hsp hp hd
  simp only [List.length_cons, List.length_nil, Nat.zero_add, Nat.reduceAdd]
  have hx1 : rdN 10 65535 hi = none → ∀ c, commT c ≠ s := fun h c hc => by rw [(hx0 c hc).1] at h; cases h
  have hx2 : rdN 10 65535 lo = none → ∀ c, commT c ≠ s := fun h c hc => by rw [(hx0 c hc).2] at h; cases h
  have hx3 : ∀ u v, rdN 10 65535 hi = some u → rdN 10 65535 lo = some v → ∀ d : UInt32, d.toNat = u * 65536 + v → commT d ≠ s → ∀ c, commT c ≠ s := fun u v hu hv d hd hne c hc => by
    obtain ⟨a, b⟩ := hx0 c hc
    rw [hu] at a
    rw [hv] at b
    injection a with a
    injection b with b
    exact hne (by rw [← hc]; congr 1; exact UInt32.toNat_inj.1 (by omega))
  have hb1 := hbd hi
  have hb2 := hbd lo
  clear hx0 hbd
  generalize rdN 10 65535 hi = r1 at *
  generalize rdN 10 65535 lo = r2 at *
  replace qa := hide qa
  replace qb := hide qb
  replace hx1 := hide hx1
  replace hx2 := hide hx2
  replace hx3 := hide hx3
  replace hb1 := hide hb1
  replace hb2 := hide hb2
  go_wp2_with fail
  (with_reducible refine (qa.out _).mono ?_)
  rintro e W5 ⟨⟨x, hxl, rfl, hxn⟩, he1⟩
  replace E := hide (E.out.trans he1)
  replace c1 := he1.cell c1
  clear he1 c0 qa
  replace hxl := hide hxl
  replace hxn := hide hxn
  go_wp2_with fail
  (with_reducible refine (qb.out _).mono ?_)
  rintro e W6 ⟨⟨y, hyl, rfl, hyn⟩, he1⟩
  replace E := hide (E.out.trans he1)
  clear he1 c1 qb
  cases r1 with
  | none =>
    have hfin := hide (hno.out W6 (hx1.out rfl) E.out)
    clear hyn hyl
    simp only [Option.isSome_none]
    go_wp2_with fail
    try go_ret2
    exact hfin.out
  | some u =>
    cases r2 with
    | none =>
      have hfin := hide (hno.out W6 (hx2.out rfl) E.out)
      clear hyn hyl
      simp only [Option.isSome_none, Option.isSome_some]
      go_wp2_with fail
      try go_ret2
      exact hfin.out
    | some v =>
      obtain rfl := hxn.out u rfl
      obtain rfl := hyn v rfl
      have hu := hb1.out u rfl
      have hv := hb2.out v rfl
      have hor := or_pair32 u v hu hv
      obtain ⟨dd, hdd⟩ : ∃ d : UInt32, d.toNat = u * 65536 + v := ⟨UInt32.ofNat (u * 65536 + v), by rw [UInt32.toNat_ofNat']; omega⟩
      rw [← hdd] at hor
      have hx := hx3.out u v rfl rfl dd hdd
      have hok1 := hok.out dd
      have q4 := qt.out dd W6
      have hw1 : IntKind.u32.wrap (u : Int) = (u : Int) := by rw [IntKind.wrap_u32]; omega
      have hw2 : IntKind.u32.wrap (v : Int) = (v : Int) := by rw [IntKind.wrap_u32]; omega
      have hw3 : IntKind.u32.wrap ((u : Int) * 65536) = (u : Int) * 65536 := by rw [IntKind.wrap_u32]; omega
      have hw4 : IntKind.u32.wrap (dd.toNat : Int) = (dd.toNat : Int) := by rw [IntKind.wrap_u32]; have := dd.toNat_lt; omega
      clear hdd hxn hyn hxl hyl hb1 hb2 hx1 hx2 hx3
      generalize commT dd = t at *
      replace hx := hide hx
      replace hok1 := hide hok1
      replace q4 := hide q4
      simp only [Option.isSome_some]
      go_wp2_with fail
      (with_reducible refine q4.out.mono ?_)
      rintro e W7 ⟨rfl, he1⟩
      replace E := hide (E.out.trans he1)
      clear he1
      by_cases hts : t = s
      · subst hts
        have hfin := hide (hok1.out W7 (by trivial) E.out)
        go_wp2_with fail
        try go_ret2
        exact hfin.out
      · have g1 : (t == s) = false := beq_eq_false_iff_ne.2 hts
        have hfin := hide (hno.out W7 (hx.out hts) E.out)
        clear hts
        go_wp2_with fail
        try go_ret2
        exact hfin.out
end
section
open Go.RowKit
set_option linter.unusedVariables false

theorem atW_len {ws : List (List UInt8)} (hm : ∀ x ∈ ws, x.length ≤ 1048576) (i : Nat) : (atW ws i).length ≤ 1048576 := by
  unfold atW
  rcases Nat.lt_or_ge i ws.length with h | h
  · rw [List.getD_eq_getElem?_getD, List.getElem?_eq_getElem h]
    exact hm _ (List.getElem_mem h)
  · rw [List.getD_eq_getElem?_getD, List.getElem?_eq_none (by omega)]
    exact Nat.zero_le _
theorem drop_at {ws r : List (List UInt8)} {k : Nat} {a : List UInt8} (h : ws.drop k = a :: r) : atW ws k = a ∧ ws.drop (k + 1) = r ∧ k < ws.length := by
  have hk : k < ws.length := by
    rcases Nat.lt_or_ge k ws.length with h1 | h1
    · exact h1
    · rw [List.drop_eq_nil_of_le h1] at h; cases h
  rw [List.drop_eq_getElem_cons hk] at h
  injection h with h1 h2
  refine ⟨?_, h2, hk⟩
  unfold atW
  rw [List.getD_eq_getElem?_getD, List.getElem?_eq_getElem hk]
  exact h1
theorem readV_two (neg : Bool) (a b : List UInt8) (r : List (List UInt8)) : readV neg (a :: b :: r) = (readV neg [a, b]).map fun p => (p.1, r) := by
  simp only [readV]
  generalize numO b 4294967296 = z
  generalize originN b = y
  repeat' split
  all_goals first | (cases z <;> rfl) | (cases y <;> rfl)
theorem readV6 {neg : Bool} {x : List UInt8} {c' : CondS} (h : readV neg [[108, 101, 110, 103, 116, 104], x] = some (c', [])) : ∃ n : Nat, rdN 10 4294967295 x = some n ∧ c' = ⟨6, neg, [], (n : Int)⟩ := by
  rw [← num_rd]
  simp only [readV] at h
  generalize numO x 4294967296 = z at *
  rw [if_neg (by decide), if_neg (by decide), if_neg (by decide), if_neg (by decide), if_neg (by decide), if_pos trivial] at h
  cases z with
  | none => cases h
  | some n =>
    injection h with h
    injection h with h
    exact ⟨n, rfl, h.symm⟩
theorem readV_at {neg : Bool} {ws q : List (List UInt8)} {k : Nat} {c : CondS} (h : readV neg (ws.drop k) = some (c, q)) : readV neg [atW ws k, atW ws (k + 1)] = some (c, []) ∧ ws.drop (k + 2) = q := by
  cases hd : ws.drop k with
  | nil => rw [hd] at h; simp [readV] at h
  | cons a r =>
    obtain ⟨ha, hr, _⟩ := drop_at hd
    cases r with
    | nil => rw [hd] at h; simp [readV] at h
    | cons b r =>
      obtain ⟨hb, hr2, _⟩ := drop_at hr
      rw [hd, readV_two] at h
      rw [ha, hb]
      obtain ⟨⟨c', q'⟩, h1, h2⟩ := Option.map_eq_some_iff.1 h
      injection h2 with h2 h3
      have h4 := readV_two neg a b []
      rw [h1] at h4
      have h5 : q' = [] := by
        have h6 : (some (c', q')) = some (c', []) := h4
        injection h6 with h6
        injection h6
      subst h5
      have h2 : c' = c := h2
      subst h2
      exact ⟨h1, hr2.trans h3⟩
theorem readC_at {ws q : List (List UInt8)} {j : Nat} {c : CondS} (h : readC (ws.drop j) = some (c, q)) :
    (atW ws j = [110, 111, 116] → readV true (ws.drop (j + 1)) = some (c, q)) ∧ (¬ atW ws j = [110, 111, 116] → readV false (ws.drop j) = some (c, q)) := by
  cases hd : ws.drop j with
  | nil => rw [hd] at h; simp [readC] at h
  | cons a r =>
    obtain ⟨ha, hr, _⟩ := drop_at hd
    rw [hd] at h
    rw [ha, hr]
    simp only [readC] at h
    refine ⟨fun e => by rw [if_pos e] at h; exact h, fun e => by rw [if_neg e] at h; exact h⟩
def RcR (ws : List (List UInt8)) (j : Nat) (w : World) (e : Ending) (w' : World) : Prop :=
  ∃ (c : CondS) (i : Nat), e = .returned (.tuple #[.agg (condCs c).toArray, .int .i64 (i : Int)]) ∧ CondIn c ∧ j < i ∧ i ≤ j + 3 ∧ (∀ c' q, readC (ws.drop j) = some (c', q) → c' = c ∧ ws.drop i = q) ∧ Ext w w'
theorem RcR.of {ws : List (List UInt8)} {j k : Nat} {neg : Bool} {w w' : World} {c : CondS} (hc : CondIn c) (hk : k = j ∨ k = j + 1) (hr : ∀ c' q, readC (ws.drop j) = some (c', q) → readV neg (ws.drop k) = some (c', q))
    (h : ∀ c', readV neg [atW ws k, atW ws (k + 1)] = some (c', []) → c' = c) (he : Ext w w') : RcR ws j w (.returned (.tuple #[.agg (condCs c).toArray, .int .i64 ((k : Int) + 2)])) w' :=
  ⟨c, k + 2, rfl, hc, by omega, by omega, fun c' q hh => by
    obtain ⟨h1, h2⟩ := readV_at (hr c' q hh)
    exact ⟨h c' h1, h2⟩, he⟩
def ZCo : Array Value := #[.int .i64 0, .bool false, .string ⟨#[]⟩, .int .i64 0]
set_option maxRecDepth 20000 in
set_option maxHeartbeats 8000000 in
theorem DReadC_any (g o d : Nat) (ws : List (List UInt8)) (j : Nat) (w : World) (h : Wds w g o ws) (hl : ws.length ≤ 2000000) (hm : ∀ x ∈ ws, x.length ≤ 1048576) (hj : j ≤ 2000001) :
    Calls Tryz.prog 54 #[.slice (some ⟨g, o, none⟩) ws.length d, .int .i64 (j : Int)] w (RcR ws j w) := by
  have hof := fun (k : Nat) (neg : Bool) W (c : CondS) hc hk hr hh he => RcR.of (ws := ws) (j := j) (k := k) (neg := neg) (w := w) (w' := W) (c := c) hc hk hr hh he
  have hC := fun c q => readC_at (ws := ws) (j := j) (c := c) (q := q)
  generalize RcR ws j w = Post at *
  obtain ⟨R, C⟩ := cond_two w 48 #[.int .i64 0, .bool false, .string ⟨#[]⟩, .int .i64 0]
  have E := ((Ext.refl w).alloc (Obj.cells #[.int .i64 0, .bool false, .string ⟨#[]⟩, .int .i64 0] 48)).alloc (Obj.cells #[.int .i64 0, .bool false, .string ⟨#[]⟩, .int .i64 0] 48)
  generalize hWb : (w.alloc (Obj.cells #[.int .i64 0, .bool false, .string ⟨#[]⟩, .int .i64 0] 48)).alloc (Obj.cells #[.int .i64 0, .bool false, .string ⟨#[]⟩, .int .i64 0] 48) = W1 at R C E
  have qa := fun (i : Nat) (hi : i ≤ 3000000) W (e : Ext w W) => DAt_any g o d ws i W (h.ext e) hl hi
  have hgw : w.heap.size ≤ w.heap.size := Nat.le_refl _
  generalize hrb : w.heap.size = rb at R C hgw
  have hgw1 : w.heap.size ≤ rb + 1 := by omega
  replace hgw : w.heap.size ≤ rb := by omega
  have hlen := atW_len hm
  generalize hn : ws.length = n at *
  clear h hm hn hl
  have q0 := qa j (by omega)
  replace hof := hide hof
  replace hC := hide hC
  replace qa := hide qa
  replace R := hide R
  replace C := hide C
  replace E := hide E
  replace hgw := hide hgw
  replace hgw1 := hide hgw1
  replace hlen := hide hlen
  replace q0 := hide q0
  go_enter Tryz.func54, Tryz.ntmps54
  go_wp2_with fail
  clear hWb
  (with_reducible refine (q0.out _ E.out).mono ?_)
  rintro e w_ ⟨rfl, rfl⟩
  clear q0
  go_upto_if 11 with fail
  go_cut [1] (fun s1 wx => ∃ (neg : Bool) (k : Nat), s1 = .int .i64 (k : Int) ∧ (k = j ∨ k = j + 1) ∧ (∀ c' q, readC (ws.drop j) = some (c', q) → readV neg (ws.drop k) = some (c', q)) ∧ Ext w wx ∧ Blk wx rb 48 #[.int .i64 0, .bool false, .string ⟨#[]⟩, .int .i64 0] ∧ Blk wx (rb + 1) 48 #[.int .i64 0, .bool neg, .string ⟨#[]⟩, .int .i64 0])
  case first =>
    have C_1 : W1.cell? ⟨rb + 1, 1, none⟩ = some (.bool false) := C.out.cell 1
    have C_f := fun i => C.out.frozen i
    by_cases hn : atW ws j = [110, 111, 116]
    · have R3 := hide (R.out.far (p := ⟨rb + 1, 1, none⟩) (show rb ≠ rb + 1 by omega) (.bool true))
      have C3 := hide (C.out.set_ 1 (.bool true))
      have E3 := hide (E.out.setCell (p := ⟨rb + 1, 1, none⟩) hgw1.out (.bool true))
      have hr := hide (fun c q hh => (hC.out c q hh).1 hn)
      rw [hn]
      clear hn hC
      go_wp2_with fail
      go_meet
      case rel => exact ⟨true, j + 1, rfl, .inr rfl, hr.out, E3.out, R3.out, C3.out⟩
    · have e1 : (atW ws j == [110, 111, 116]) = false := beq_eq_false_iff_ne.2 hn
      have hr := hide (fun c q hh => (hC.out c q hh).2 hn)
      rw [e1]
      clear hn hC e1
      go_wp2_with fail
      go_meet
      case rel => exact ⟨false, j, rfl, .inl rfl, hr.out, E.out, R.out, C.out⟩
  case rest =>
    clear E R C hC
    obtain ⟨neg, k, rfl, hk, hr, E, R, C⟩ := hcut
    have q1 : ∀ W, Ext w W → Calls Tryz.prog 53 #[.slice (some ⟨g, o, none⟩) n d, .int .i64 ((k : Int) + 1)] W fun e w' => e = .returned (.string ⟨(atW ws (k + 1)).toArray⟩) ∧ W = w' := fun W e => qa.out (k + 1) (by omega) W e
    have q2 := fun W e => qa.out k (by omega) W e
    have hlx := hlen.out (k + 1)
    have hk10 : k ≤ 2000002 := by omega
    have hof' := fun W c hc hh he => hof.out k neg W c hc hk hr hh he
    generalize atW ws (k + 1) = x at *
    generalize atW ws k = y at *
    clear hof hr hk qa hlen
    have c0 : wc.cell? ⟨rb + 1, 0, none⟩ = some (.int .i64 0) := C.cell 0
    have c2 : wc.cell? ⟨rb + 1, 2, none⟩ = some (.string ⟨#[]⟩) := C.cell 2
    have c3 : wc.cell? ⟨rb + 1, 3, none⟩ = some (.int .i64 0) := C.cell 3
    have cf := fun i => C.frozen i
    replace hof' := hide hof'
    replace q1 := hide q1
    replace q2 := hide q2
    replace hlx := hide hlx
    replace E := hide E
    replace R := hide R
    replace C := hide C
    go_wp2_with fail
    (with_reducible refine (q1.out _ E.out).mono ?_)
    rintro e w_ ⟨rfl, rfl⟩
    clear q1
    go_wp2_with fail
    (with_reducible refine (q2.out _ E.out).mono ?_)
    rintro e w_ ⟨rfl, rfl⟩
    clear q2
    by_cases hy1 : y = [112, 114, 101, 102, 105, 120]
    · subst hy1
      have C5 : Blk (wc.setCell ⟨rb + 1, 0, none⟩ (.int .i64 1)) (rb + 1) 48 #[.int .i64 1, .bool neg, .string ⟨#[]⟩, .int .i64 0] := C.out.set_ 0 (.int .i64 1)
      have C7 : Blk ((wc.setCell ⟨rb + 1, 0, none⟩ (.int .i64 1)).setCell ⟨rb + 1, 2, none⟩ (.string ⟨x.toArray⟩)) (rb + 1) 48 #[.int .i64 1, .bool neg, .string ⟨x.toArray⟩, .int .i64 0] := C5.set_ 2 (.string ⟨x.toArray⟩)
      have R7 := (R.out.far (p := ⟨rb + 1, 0, none⟩) (show rb ≠ rb + 1 by omega) (.int .i64 1)).far (p := ⟨rb + 1, 2, none⟩) (show rb ≠ rb + 1 by omega) (.string ⟨x.toArray⟩)
      have E7 := (E.out.setCell (p := ⟨rb + 1, 0, none⟩) hgw1.out (.int .i64 1)).setCell (p := ⟨rb + 1, 2, none⟩) hgw1.out (.string ⟨x.toArray⟩)
      have hfin := fun W he => hof'.out W ⟨1, neg, x, 0⟩ ⟨(⟨by decide, by decide⟩ : i64 1), hlx.out, (⟨by decide, by decide⟩ : i64 0)⟩ (fun c' h => by simp [readV] at h; exact h.symm) he
      clear C5 hof' C R E
      replace C7 := hide C7
      replace R7 := hide R7
      replace E7 := hide E7
      replace hfin := hide hfin
      go_upto_region 28 with fail
      generalize hW8 : (wc.setCell ⟨rb + 1, 0, none⟩ (.int .i64 1)).setCell ⟨rb + 1, 2, none⟩ (.string ⟨x.toArray⟩) = W8 at C7 R7 E7 ⊢
      clear c0 c2 c3 cf hW8
      have zz0 : W8.cell? ⟨rb + 1, 0, none⟩ = some (.int .i64 1) := C7.out.cell 0
      have zz1 : W8.cell? ⟨rb + 1, 1, none⟩ = some (.bool neg) := C7.out.cell 1
      have zz2 : W8.cell? ⟨rb + 1, 2, none⟩ = some (.string ⟨x.toArray⟩) := C7.out.cell 2
      have zz3 : W8.cell? ⟨rb + 1, 3, none⟩ = some (.int .i64 0) := C7.out.cell 3
      have r0 : W8.cell? ⟨rb, 0, none⟩ = some (.int .i64 0) := R7.out.cell 0
      have r1 : W8.cell? ⟨rb, 1, none⟩ = some (.bool false) := R7.out.cell 1
      have r2 : W8.cell? ⟨rb, 2, none⟩ = some (.string ⟨#[]⟩) := R7.out.cell 2
      have r3 : W8.cell? ⟨rb, 3, none⟩ = some (.int .i64 0) := R7.out.cell 3
      have rf := fun i => R7.out.frozen i
      have hRZ := R7.out.fill4 (.int .i64 1) (.bool neg) (.string ⟨x.toArray⟩) (.int .i64 0)
      have hEZ := (((E7.out.setCell (p := ⟨rb, 0, none⟩) hgw.out (.int .i64 1)).setCell (p := ⟨rb, 1, none⟩) hgw.out (.bool neg)).setCell (p := ⟨rb, 2, none⟩) hgw.out (.string ⟨x.toArray⟩)).setCell (p := ⟨rb, 3, none⟩) hgw.out (.int .i64 0)
      have z0 := hRZ.cell 0
      have z1 := hRZ.cell 1
      have z2 := hRZ.cell 2
      have z3 := hRZ.cell 3
      simp at z0 z1 z2 z3
      clear hRZ
      replace hEZ := hide hEZ
      go_wp2_with fail
      exact bodyPost_ret (v := .tuple #[.agg #[.int .i64 1, .bool neg, .string ⟨x.toArray⟩, .int .i64 0], .int .i64 ((k : Int) + 2)]) (by simp [results, Tryz.results54, go_sem, z0, z1, z2, z3]) rfl (hfin.out _ hEZ.out)
    have b1 : (y == [112, 114, 101, 102, 105, 120]) = false := beq_eq_false_iff_ne.2 hy1
    by_cases hy2 : y = [99, 111, 109, 109]
    · subst hy2
      have C5 : Blk (wc.setCell ⟨rb + 1, 0, none⟩ (.int .i64 2)) (rb + 1) 48 #[.int .i64 2, .bool neg, .string ⟨#[]⟩, .int .i64 0] := C.out.set_ 0 (.int .i64 2)
      have C7 : Blk ((wc.setCell ⟨rb + 1, 0, none⟩ (.int .i64 2)).setCell ⟨rb + 1, 2, none⟩ (.string ⟨x.toArray⟩)) (rb + 1) 48 #[.int .i64 2, .bool neg, .string ⟨x.toArray⟩, .int .i64 0] := C5.set_ 2 (.string ⟨x.toArray⟩)
      have R7 := (R.out.far (p := ⟨rb + 1, 0, none⟩) (show rb ≠ rb + 1 by omega) (.int .i64 2)).far (p := ⟨rb + 1, 2, none⟩) (show rb ≠ rb + 1 by omega) (.string ⟨x.toArray⟩)
      have E7 := (E.out.setCell (p := ⟨rb + 1, 0, none⟩) hgw1.out (.int .i64 2)).setCell (p := ⟨rb + 1, 2, none⟩) hgw1.out (.string ⟨x.toArray⟩)
      have hfin := fun W he => hof'.out W ⟨2, neg, x, 0⟩ ⟨(⟨by decide, by decide⟩ : i64 2), hlx.out, (⟨by decide, by decide⟩ : i64 0)⟩ (fun c' h => by simp [readV] at h; exact h.symm) he
      clear C5 hof' C R E
      replace C7 := hide C7
      replace R7 := hide R7
      replace E7 := hide E7
      replace hfin := hide hfin
      go_upto_region 28 with fail
      generalize hW8 : (wc.setCell ⟨rb + 1, 0, none⟩ (.int .i64 2)).setCell ⟨rb + 1, 2, none⟩ (.string ⟨x.toArray⟩) = W8 at C7 R7 E7 ⊢
      clear c0 c2 c3 cf hW8
      have zz0 : W8.cell? ⟨rb + 1, 0, none⟩ = some (.int .i64 2) := C7.out.cell 0
      have zz1 : W8.cell? ⟨rb + 1, 1, none⟩ = some (.bool neg) := C7.out.cell 1
      have zz2 : W8.cell? ⟨rb + 1, 2, none⟩ = some (.string ⟨x.toArray⟩) := C7.out.cell 2
      have zz3 : W8.cell? ⟨rb + 1, 3, none⟩ = some (.int .i64 0) := C7.out.cell 3
      have r0 : W8.cell? ⟨rb, 0, none⟩ = some (.int .i64 0) := R7.out.cell 0
      have r1 : W8.cell? ⟨rb, 1, none⟩ = some (.bool false) := R7.out.cell 1
      have r2 : W8.cell? ⟨rb, 2, none⟩ = some (.string ⟨#[]⟩) := R7.out.cell 2
      have r3 : W8.cell? ⟨rb, 3, none⟩ = some (.int .i64 0) := R7.out.cell 3
      have rf := fun i => R7.out.frozen i
      have hRZ := R7.out.fill4 (.int .i64 2) (.bool neg) (.string ⟨x.toArray⟩) (.int .i64 0)
      have hEZ := (((E7.out.setCell (p := ⟨rb, 0, none⟩) hgw.out (.int .i64 2)).setCell (p := ⟨rb, 1, none⟩) hgw.out (.bool neg)).setCell (p := ⟨rb, 2, none⟩) hgw.out (.string ⟨x.toArray⟩)).setCell (p := ⟨rb, 3, none⟩) hgw.out (.int .i64 0)
      have z0 := hRZ.cell 0
      have z1 := hRZ.cell 1
      have z2 := hRZ.cell 2
      have z3 := hRZ.cell 3
      simp at z0 z1 z2 z3
      clear hRZ
      replace hEZ := hide hEZ
      go_wp2_with fail
      exact bodyPost_ret (v := .tuple #[.agg #[.int .i64 2, .bool neg, .string ⟨x.toArray⟩, .int .i64 0], .int .i64 ((k : Int) + 2)]) (by simp [results, Tryz.results54, go_sem, z0, z1, z2, z3]) rfl (hfin.out _ hEZ.out)
    have b2 : (y == [99, 111, 109, 109]) = false := beq_eq_false_iff_ne.2 hy2
    by_cases hy3 : y = [112, 97, 116, 104]
    · subst hy3
      have C5 : Blk (wc.setCell ⟨rb + 1, 0, none⟩ (.int .i64 3)) (rb + 1) 48 #[.int .i64 3, .bool neg, .string ⟨#[]⟩, .int .i64 0] := C.out.set_ 0 (.int .i64 3)
      have C7 : Blk ((wc.setCell ⟨rb + 1, 0, none⟩ (.int .i64 3)).setCell ⟨rb + 1, 2, none⟩ (.string ⟨x.toArray⟩)) (rb + 1) 48 #[.int .i64 3, .bool neg, .string ⟨x.toArray⟩, .int .i64 0] := C5.set_ 2 (.string ⟨x.toArray⟩)
      have R7 := (R.out.far (p := ⟨rb + 1, 0, none⟩) (show rb ≠ rb + 1 by omega) (.int .i64 3)).far (p := ⟨rb + 1, 2, none⟩) (show rb ≠ rb + 1 by omega) (.string ⟨x.toArray⟩)
      have E7 := (E.out.setCell (p := ⟨rb + 1, 0, none⟩) hgw1.out (.int .i64 3)).setCell (p := ⟨rb + 1, 2, none⟩) hgw1.out (.string ⟨x.toArray⟩)
      have hfin := fun W he => hof'.out W ⟨3, neg, x, 0⟩ ⟨(⟨by decide, by decide⟩ : i64 3), hlx.out, (⟨by decide, by decide⟩ : i64 0)⟩ (fun c' h => by simp [readV] at h; exact h.symm) he
      clear C5 hof' C R E
      replace C7 := hide C7
      replace R7 := hide R7
      replace E7 := hide E7
      replace hfin := hide hfin
      go_upto_region 28 with fail
      generalize hW8 : (wc.setCell ⟨rb + 1, 0, none⟩ (.int .i64 3)).setCell ⟨rb + 1, 2, none⟩ (.string ⟨x.toArray⟩) = W8 at C7 R7 E7 ⊢
      clear c0 c2 c3 cf hW8
      have zz0 : W8.cell? ⟨rb + 1, 0, none⟩ = some (.int .i64 3) := C7.out.cell 0
      have zz1 : W8.cell? ⟨rb + 1, 1, none⟩ = some (.bool neg) := C7.out.cell 1
      have zz2 : W8.cell? ⟨rb + 1, 2, none⟩ = some (.string ⟨x.toArray⟩) := C7.out.cell 2
      have zz3 : W8.cell? ⟨rb + 1, 3, none⟩ = some (.int .i64 0) := C7.out.cell 3
      have r0 : W8.cell? ⟨rb, 0, none⟩ = some (.int .i64 0) := R7.out.cell 0
      have r1 : W8.cell? ⟨rb, 1, none⟩ = some (.bool false) := R7.out.cell 1
      have r2 : W8.cell? ⟨rb, 2, none⟩ = some (.string ⟨#[]⟩) := R7.out.cell 2
      have r3 : W8.cell? ⟨rb, 3, none⟩ = some (.int .i64 0) := R7.out.cell 3
      have rf := fun i => R7.out.frozen i
      have hRZ := R7.out.fill4 (.int .i64 3) (.bool neg) (.string ⟨x.toArray⟩) (.int .i64 0)
      have hEZ := (((E7.out.setCell (p := ⟨rb, 0, none⟩) hgw.out (.int .i64 3)).setCell (p := ⟨rb, 1, none⟩) hgw.out (.bool neg)).setCell (p := ⟨rb, 2, none⟩) hgw.out (.string ⟨x.toArray⟩)).setCell (p := ⟨rb, 3, none⟩) hgw.out (.int .i64 0)
      have z0 := hRZ.cell 0
      have z1 := hRZ.cell 1
      have z2 := hRZ.cell 2
      have z3 := hRZ.cell 3
      simp at z0 z1 z2 z3
      clear hRZ
      replace hEZ := hide hEZ
      go_wp2_with fail
      exact bodyPost_ret (v := .tuple #[.agg #[.int .i64 3, .bool neg, .string ⟨x.toArray⟩, .int .i64 0], .int .i64 ((k : Int) + 2)]) (by simp [results, Tryz.results54, go_sem, z0, z1, z2, z3]) rfl (hfin.out _ hEZ.out)
    have b3 : (y == [112, 97, 116, 104]) = false := beq_eq_false_iff_ne.2 hy3
    by_cases hy4 : y = [112, 101, 101, 114]
    · subst hy4
      have C5 : Blk (wc.setCell ⟨rb + 1, 0, none⟩ (.int .i64 4)) (rb + 1) 48 #[.int .i64 4, .bool neg, .string ⟨#[]⟩, .int .i64 0] := C.out.set_ 0 (.int .i64 4)
      have C7 : Blk ((wc.setCell ⟨rb + 1, 0, none⟩ (.int .i64 4)).setCell ⟨rb + 1, 2, none⟩ (.string ⟨x.toArray⟩)) (rb + 1) 48 #[.int .i64 4, .bool neg, .string ⟨x.toArray⟩, .int .i64 0] := C5.set_ 2 (.string ⟨x.toArray⟩)
      have R7 := (R.out.far (p := ⟨rb + 1, 0, none⟩) (show rb ≠ rb + 1 by omega) (.int .i64 4)).far (p := ⟨rb + 1, 2, none⟩) (show rb ≠ rb + 1 by omega) (.string ⟨x.toArray⟩)
      have E7 := (E.out.setCell (p := ⟨rb + 1, 0, none⟩) hgw1.out (.int .i64 4)).setCell (p := ⟨rb + 1, 2, none⟩) hgw1.out (.string ⟨x.toArray⟩)
      have hfin := fun W he => hof'.out W ⟨4, neg, x, 0⟩ ⟨(⟨by decide, by decide⟩ : i64 4), hlx.out, (⟨by decide, by decide⟩ : i64 0)⟩ (fun c' h => by simp [readV] at h; exact h.symm) he
      clear C5 hof' C R E
      replace C7 := hide C7
      replace R7 := hide R7
      replace E7 := hide E7
      replace hfin := hide hfin
      go_upto_region 28 with fail
      generalize hW8 : (wc.setCell ⟨rb + 1, 0, none⟩ (.int .i64 4)).setCell ⟨rb + 1, 2, none⟩ (.string ⟨x.toArray⟩) = W8 at C7 R7 E7 ⊢
      clear c0 c2 c3 cf hW8
      have zz0 : W8.cell? ⟨rb + 1, 0, none⟩ = some (.int .i64 4) := C7.out.cell 0
      have zz1 : W8.cell? ⟨rb + 1, 1, none⟩ = some (.bool neg) := C7.out.cell 1
      have zz2 : W8.cell? ⟨rb + 1, 2, none⟩ = some (.string ⟨x.toArray⟩) := C7.out.cell 2
      have zz3 : W8.cell? ⟨rb + 1, 3, none⟩ = some (.int .i64 0) := C7.out.cell 3
      have r0 : W8.cell? ⟨rb, 0, none⟩ = some (.int .i64 0) := R7.out.cell 0
      have r1 : W8.cell? ⟨rb, 1, none⟩ = some (.bool false) := R7.out.cell 1
      have r2 : W8.cell? ⟨rb, 2, none⟩ = some (.string ⟨#[]⟩) := R7.out.cell 2
      have r3 : W8.cell? ⟨rb, 3, none⟩ = some (.int .i64 0) := R7.out.cell 3
      have rf := fun i => R7.out.frozen i
      have hRZ := R7.out.fill4 (.int .i64 4) (.bool neg) (.string ⟨x.toArray⟩) (.int .i64 0)
      have hEZ := (((E7.out.setCell (p := ⟨rb, 0, none⟩) hgw.out (.int .i64 4)).setCell (p := ⟨rb, 1, none⟩) hgw.out (.bool neg)).setCell (p := ⟨rb, 2, none⟩) hgw.out (.string ⟨x.toArray⟩)).setCell (p := ⟨rb, 3, none⟩) hgw.out (.int .i64 0)
      have z0 := hRZ.cell 0
      have z1 := hRZ.cell 1
      have z2 := hRZ.cell 2
      have z3 := hRZ.cell 3
      simp at z0 z1 z2 z3
      clear hRZ
      replace hEZ := hide hEZ
      go_wp2_with fail
      exact bodyPost_ret (v := .tuple #[.agg #[.int .i64 4, .bool neg, .string ⟨x.toArray⟩, .int .i64 0], .int .i64 ((k : Int) + 2)]) (by simp [results, Tryz.results54, go_sem, z0, z1, z2, z3]) rfl (hfin.out _ hEZ.out)
    have b4 : (y == [112, 101, 101, 114]) = false := beq_eq_false_iff_ne.2 hy4
    by_cases hy5 : y = [111, 114, 105, 103, 105, 110]
    · subst hy5
      have q5 := DOriginOf_any x
      have hx5 : ∀ n, originN x = some n → originF x = n := fun n h => (originF_n h).1
      have hb5 := originF_bd x
      generalize originF x = nv at *
      have C5 : Blk (wc.setCell ⟨rb + 1, 0, none⟩ (.int .i64 5)) (rb + 1) 48 #[.int .i64 5, .bool neg, .string ⟨#[]⟩, .int .i64 0] := C.out.set_ 0 (.int .i64 5)
      have R5 := R.out.far (p := ⟨rb + 1, 0, none⟩) (show rb ≠ rb + 1 by omega) (.int .i64 5)
      have E5 := E.out.setCell (p := ⟨rb + 1, 0, none⟩) hgw1.out (.int .i64 5)
      have hfin := fun W he => hof'.out W ⟨5, neg, [], nv⟩ ⟨(⟨by decide, by decide⟩ : i64 5), Nat.zero_le _, (⟨by omega, by omega⟩ : i64 nv)⟩ (fun c' h => by
        simp [readV] at h
        obtain ⟨a, h1, rfl⟩ := h
        rw [hx5 a h1]) he
      clear hof' C R E hx5
      replace C5 := hide C5
      replace R5 := hide R5
      replace E5 := hide E5
      replace hfin := hide hfin
      replace q5 := hide q5
      go_wp2_with fail
      (with_reducible refine (q5.out _).mono ?_)
      rintro e W5 ⟨rfl, he⟩
      have C6 := C5.out.ext he
      have R6 := R5.out.ext he
      have E6 := E5.out.trans he
      clear he q5 C5 R5 E5 c0 c2 c3 cf
      have c3 : W5.cell? ⟨rb + 1, 3, none⟩ = some (.int .i64 0) := C6.cell 3
      have cf := fun i => C6.frozen i
      have C7 : Blk (W5.setCell ⟨rb + 1, 3, none⟩ (.int .i64 nv)) (rb + 1) 48 #[.int .i64 5, .bool neg, .string ⟨#[]⟩, .int .i64 nv] := C6.set_ 3 (.int .i64 nv)
      have R7 := R6.far (p := ⟨rb + 1, 3, none⟩) (show rb ≠ rb + 1 by omega) (.int .i64 nv)
      have E7 := E6.setCell (p := ⟨rb + 1, 3, none⟩) hgw1.out (.int .i64 nv)
      clear C6 R6 E6
      replace C7 := hide C7
      replace R7 := hide R7
      replace E7 := hide E7
      go_upto_region 28 with fail
      generalize hW8 : W5.setCell ⟨rb + 1, 3, none⟩ (.int .i64 nv) = W8 at C7 R7 E7 ⊢
      clear c3 cf hW8
      have zz0 : W8.cell? ⟨rb + 1, 0, none⟩ = some (.int .i64 5) := C7.out.cell 0
      have zz1 : W8.cell? ⟨rb + 1, 1, none⟩ = some (.bool neg) := C7.out.cell 1
      have zz2 : W8.cell? ⟨rb + 1, 2, none⟩ = some (.string ⟨#[]⟩) := C7.out.cell 2
      have zz3 : W8.cell? ⟨rb + 1, 3, none⟩ = some (.int .i64 nv) := C7.out.cell 3
      have r0 : W8.cell? ⟨rb, 0, none⟩ = some (.int .i64 0) := R7.out.cell 0
      have r1 : W8.cell? ⟨rb, 1, none⟩ = some (.bool false) := R7.out.cell 1
      have r2 : W8.cell? ⟨rb, 2, none⟩ = some (.string ⟨#[]⟩) := R7.out.cell 2
      have r3 : W8.cell? ⟨rb, 3, none⟩ = some (.int .i64 0) := R7.out.cell 3
      have rf := fun i => R7.out.frozen i
      have hRZ := R7.out.fill4 (.int .i64 5) (.bool neg) (.string ⟨#[]⟩) (.int .i64 nv)
      have hEZ := (((E7.out.setCell (p := ⟨rb, 0, none⟩) hgw.out (.int .i64 5)).setCell (p := ⟨rb, 1, none⟩) hgw.out (.bool neg)).setCell (p := ⟨rb, 2, none⟩) hgw.out (.string ⟨#[]⟩)).setCell (p := ⟨rb, 3, none⟩) hgw.out (.int .i64 nv)
      have z0 := hRZ.cell 0
      have z1 := hRZ.cell 1
      have z2 := hRZ.cell 2
      have z3 := hRZ.cell 3
      simp at z0 z1 z2 z3
      clear hRZ
      replace hEZ := hide hEZ
      go_wp2_with fail
      exact bodyPost_ret (v := .tuple #[.agg #[.int .i64 5, .bool neg, .string ⟨#[]⟩, .int .i64 nv], .int .i64 ((k : Int) + 2)]) (by simp [results, Tryz.results54, go_sem, z0, z1, z2, z3]) rfl (hfin.out _ hEZ.out)
    have b5 : (y == [111, 114, 105, 103, 105, 110]) = false := beq_eq_false_iff_ne.2 hy5
    by_cases hy6 : y = [108, 101, 110, 103, 116, 104]
    · subst hy6
      have q5 := fun W => DNumber_any x W hlx.out
      have C5 : Blk (wc.setCell ⟨rb + 1, 0, none⟩ (.int .i64 6)) (rb + 1) 48 #[.int .i64 6, .bool neg, .string ⟨#[]⟩, .int .i64 0] := C.out.set_ 0 (.int .i64 6)
      have R5 := R.out.far (p := ⟨rb + 1, 0, none⟩) (show rb ≠ rb + 1 by omega) (.int .i64 6)
      have E5 := E.out.setCell (p := ⟨rb + 1, 0, none⟩) hgw1.out (.int .i64 6)
      have hfin := fun nv hb W hh he => hof'.out W ⟨6, neg, [], nv⟩ ⟨(⟨by decide, by decide⟩ : i64 6), Nat.zero_le _, (hb : i64 nv)⟩ hh he
      clear hof' C R E
      replace C5 := hide C5
      replace R5 := hide R5
      replace E5 := hide E5
      replace hfin := hide hfin
      replace q5 := hide q5
      go_wp2_with fail
      (with_reducible refine (q5.out _).mono ?_)
      rintro e W5 ⟨xn, hxn, rfl, hxr, he⟩
      have C6 := C5.out.ext he
      have R6 := R5.out.ext he
      have E6 := E5.out.trans he
      clear he q5 C5 R5 E5 c0 c2 c3 cf
      have hw6 : -9223372036854775808 ≤ IntKind.i64.wrap (xn : Int) ∧ IntKind.i64.wrap (xn : Int) ≤ 9223372036854775807 := by rw [IntKind.wrap_i64]; omega
      have hn6 : ∀ n, rdN 10 4294967295 x = some n → IntKind.i64.wrap (xn : Int) = (n : Int) := fun n h => by
        have h1 := (rdN_iff (by decide) (by decide)).1 h
        have h2 := hxr n h
        rw [IntKind.wrap_i64]
        omega
      have hfin := fun W he => hfin.out (IntKind.i64.wrap (xn : Int)) hw6 W (fun c' h => by
        obtain ⟨a, h1, rfl⟩ := readV6 h
        rw [hn6 a h1]) he
      clear hxn hxr hw6 hn6
      replace hfin := hide hfin
      obtain ⟨nv, hnv⟩ : ∃ nv, IntKind.i64.wrap (xn : Int) = nv := ⟨_, rfl⟩
      rw [hnv] at hfin
      have c3 : W5.cell? ⟨rb + 1, 3, none⟩ = some (.int .i64 0) := C6.cell 3
      have cf := fun i => C6.frozen i
      have C7 : Blk (W5.setCell ⟨rb + 1, 3, none⟩ (.int .i64 nv)) (rb + 1) 48 #[.int .i64 6, .bool neg, .string ⟨#[]⟩, .int .i64 nv] := C6.set_ 3 (.int .i64 nv)
      have R7 := R6.far (p := ⟨rb + 1, 3, none⟩) (show rb ≠ rb + 1 by omega) (.int .i64 nv)
      have E7 := E6.setCell (p := ⟨rb + 1, 3, none⟩) hgw1.out (.int .i64 nv)
      clear C6 R6 E6
      replace C7 := hide C7
      replace R7 := hide R7
      replace E7 := hide E7
      go_upto_region 28 with fail
      generalize hW8 : W5.setCell ⟨rb + 1, 3, none⟩ (.int .i64 nv) = W8 at C7 R7 E7 ⊢
      clear c3 cf hW8
      have zz0 : W8.cell? ⟨rb + 1, 0, none⟩ = some (.int .i64 6) := C7.out.cell 0
      have zz1 : W8.cell? ⟨rb + 1, 1, none⟩ = some (.bool neg) := C7.out.cell 1
      have zz2 : W8.cell? ⟨rb + 1, 2, none⟩ = some (.string ⟨#[]⟩) := C7.out.cell 2
      have zz3 : W8.cell? ⟨rb + 1, 3, none⟩ = some (.int .i64 nv) := C7.out.cell 3
      have r0 : W8.cell? ⟨rb, 0, none⟩ = some (.int .i64 0) := R7.out.cell 0
      have r1 : W8.cell? ⟨rb, 1, none⟩ = some (.bool false) := R7.out.cell 1
      have r2 : W8.cell? ⟨rb, 2, none⟩ = some (.string ⟨#[]⟩) := R7.out.cell 2
      have r3 : W8.cell? ⟨rb, 3, none⟩ = some (.int .i64 0) := R7.out.cell 3
      have rf := fun i => R7.out.frozen i
      have hRZ := R7.out.fill4 (.int .i64 6) (.bool neg) (.string ⟨#[]⟩) (.int .i64 nv)
      have hEZ := (((E7.out.setCell (p := ⟨rb, 0, none⟩) hgw.out (.int .i64 6)).setCell (p := ⟨rb, 1, none⟩) hgw.out (.bool neg)).setCell (p := ⟨rb, 2, none⟩) hgw.out (.string ⟨#[]⟩)).setCell (p := ⟨rb, 3, none⟩) hgw.out (.int .i64 nv)
      have z0 := hRZ.cell 0
      have z1 := hRZ.cell 1
      have z2 := hRZ.cell 2
      have z3 := hRZ.cell 3
      simp at z0 z1 z2 z3
      clear hRZ
      replace hEZ := hide hEZ
      go_wp2_with fail
      exact bodyPost_ret (v := .tuple #[.agg #[.int .i64 6, .bool neg, .string ⟨#[]⟩, .int .i64 nv], .int .i64 ((k : Int) + 2)]) (by simp [results, Tryz.results54, go_sem, z0, z1, z2, z3]) rfl (hfin.out _ hEZ.out)
    have b6 : (y == [108, 101, 110, 103, 116, 104]) = false := beq_eq_false_iff_ne.2 hy6
    by_cases hy7 : y = [102, 97, 109]
    · subst hy7
      have q5 := RFam_any x
      have hb5 := famN_bd x
      have C5 : Blk (wc.setCell ⟨rb + 1, 0, none⟩ (.int .i64 7)) (rb + 1) 48 #[.int .i64 7, .bool neg, .string ⟨#[]⟩, .int .i64 0] := C.out.set_ 0 (.int .i64 7)
      have R5 := R.out.far (p := ⟨rb + 1, 0, none⟩) (show rb ≠ rb + 1 by omega) (.int .i64 7)
      have E5 := E.out.setCell (p := ⟨rb + 1, 0, none⟩) hgw1.out (.int .i64 7)
      have hfin := fun W he => hof'.out W ⟨7, neg, [], famN x⟩ ⟨(⟨by decide, by decide⟩ : i64 7), Nat.zero_le _, (⟨by omega, by omega⟩ : i64 (famN x))⟩ (fun c' h => by
        simp [readV] at h
        exact h.2.symm) he
      generalize famN x = nv at *
      clear hof' C R E
      replace C5 := hide C5
      replace R5 := hide R5
      replace E5 := hide E5
      replace hfin := hide hfin
      replace q5 := hide q5
      go_wp2_with fail
      (with_reducible refine (q5.out _).mono ?_)
      rintro e w_ ⟨rfl, rfl⟩
      have C6 := C5.out
      have R6 := R5.out
      have E6 := E5.out
      clear q5 C5 R5 E5 c0 c2 c3 cf
      have c3 : (wc.setCell ⟨rb + 1, 0, none⟩ (.int .i64 7)).cell? ⟨rb + 1, 3, none⟩ = some (.int .i64 0) := C6.cell 3
      have cf := fun i => C6.frozen i
      have C7 : Blk ((wc.setCell ⟨rb + 1, 0, none⟩ (.int .i64 7)).setCell ⟨rb + 1, 3, none⟩ (.int .i64 nv)) (rb + 1) 48 #[.int .i64 7, .bool neg, .string ⟨#[]⟩, .int .i64 nv] := C6.set_ 3 (.int .i64 nv)
      have R7 := R6.far (p := ⟨rb + 1, 3, none⟩) (show rb ≠ rb + 1 by omega) (.int .i64 nv)
      have E7 := E6.setCell (p := ⟨rb + 1, 3, none⟩) hgw1.out (.int .i64 nv)
      clear C6 R6 E6
      replace C7 := hide C7
      replace R7 := hide R7
      replace E7 := hide E7
      go_upto_region 28 with fail
      generalize hW8 : (wc.setCell ⟨rb + 1, 0, none⟩ (.int .i64 7)).setCell ⟨rb + 1, 3, none⟩ (.int .i64 nv) = W8 at C7 R7 E7 ⊢
      clear c3 cf hW8
      have zz0 : W8.cell? ⟨rb + 1, 0, none⟩ = some (.int .i64 7) := C7.out.cell 0
      have zz1 : W8.cell? ⟨rb + 1, 1, none⟩ = some (.bool neg) := C7.out.cell 1
      have zz2 : W8.cell? ⟨rb + 1, 2, none⟩ = some (.string ⟨#[]⟩) := C7.out.cell 2
      have zz3 : W8.cell? ⟨rb + 1, 3, none⟩ = some (.int .i64 nv) := C7.out.cell 3
      have r0 : W8.cell? ⟨rb, 0, none⟩ = some (.int .i64 0) := R7.out.cell 0
      have r1 : W8.cell? ⟨rb, 1, none⟩ = some (.bool false) := R7.out.cell 1
      have r2 : W8.cell? ⟨rb, 2, none⟩ = some (.string ⟨#[]⟩) := R7.out.cell 2
      have r3 : W8.cell? ⟨rb, 3, none⟩ = some (.int .i64 0) := R7.out.cell 3
      have rf := fun i => R7.out.frozen i
      have hRZ := R7.out.fill4 (.int .i64 7) (.bool neg) (.string ⟨#[]⟩) (.int .i64 nv)
      have hEZ := (((E7.out.setCell (p := ⟨rb, 0, none⟩) hgw.out (.int .i64 7)).setCell (p := ⟨rb, 1, none⟩) hgw.out (.bool neg)).setCell (p := ⟨rb, 2, none⟩) hgw.out (.string ⟨#[]⟩)).setCell (p := ⟨rb, 3, none⟩) hgw.out (.int .i64 nv)
      have z0 := hRZ.cell 0
      have z1 := hRZ.cell 1
      have z2 := hRZ.cell 2
      have z3 := hRZ.cell 3
      simp at z0 z1 z2 z3
      clear hRZ
      replace hEZ := hide hEZ
      go_wp2_with fail
      exact bodyPost_ret (v := .tuple #[.agg #[.int .i64 7, .bool neg, .string ⟨#[]⟩, .int .i64 nv], .int .i64 ((k : Int) + 2)]) (by simp [results, Tryz.results54, go_sem, z0, z1, z2, z3]) rfl (hfin.out _ hEZ.out)
    have b7 : (y == [102, 97, 109]) = false := beq_eq_false_iff_ne.2 hy7
    have hfin := fun W he => hof'.out W ⟨0, neg, [], 0⟩ ⟨(⟨by decide, by decide⟩ : i64 0), Nat.zero_le _, (⟨by decide, by decide⟩ : i64 0)⟩ (fun c' h => by
      simp only [readV] at h
      rw [if_neg hy1, if_neg hy2, if_neg hy3, if_neg hy4, if_neg hy5, if_neg hy6, if_neg hy7] at h
      cases h) he
    clear hof' hy1 hy2 hy3 hy4 hy5 hy6 hy7 c0 c2 c3 cf
    replace hfin := hide hfin
    go_upto_region 28 with fail
    have zz0 : wc.cell? ⟨rb + 1, 0, none⟩ = some (.int .i64 0) := C.out.cell 0
    have zz1 : wc.cell? ⟨rb + 1, 1, none⟩ = some (.bool neg) := C.out.cell 1
    have zz2 : wc.cell? ⟨rb + 1, 2, none⟩ = some (.string ⟨#[]⟩) := C.out.cell 2
    have zz3 : wc.cell? ⟨rb + 1, 3, none⟩ = some (.int .i64 0) := C.out.cell 3
    have r0 : wc.cell? ⟨rb, 0, none⟩ = some (.int .i64 0) := R.out.cell 0
    have r1 : wc.cell? ⟨rb, 1, none⟩ = some (.bool false) := R.out.cell 1
    have r2 : wc.cell? ⟨rb, 2, none⟩ = some (.string ⟨#[]⟩) := R.out.cell 2
    have r3 : wc.cell? ⟨rb, 3, none⟩ = some (.int .i64 0) := R.out.cell 3
    have rf := fun i => R.out.frozen i
    have hRZ := R.out.fill4 (.int .i64 0) (.bool neg) (.string ⟨#[]⟩) (.int .i64 0)
    have hEZ := (((E.out.setCell (p := ⟨rb, 0, none⟩) hgw.out (.int .i64 0)).setCell (p := ⟨rb, 1, none⟩) hgw.out (.bool neg)).setCell (p := ⟨rb, 2, none⟩) hgw.out (.string ⟨#[]⟩)).setCell (p := ⟨rb, 3, none⟩) hgw.out (.int .i64 0)
    have z0 := hRZ.cell 0
    have z1 := hRZ.cell 1
    have z2 := hRZ.cell 2
    have z3 := hRZ.cell 3
    simp at z0 z1 z2 z3
    clear hRZ
    replace hEZ := hide hEZ
    go_wp2_with fail
    exact bodyPost_ret (v := .tuple #[.agg #[.int .i64 0, .bool neg, .string ⟨#[]⟩, .int .i64 0], .int .i64 ((k : Int) + 2)]) (by simp [results, Tryz.results54, go_sem, z0, z1, z2, z3]) rfl (hfin.out _ hEZ.out)
end
section
open Go.RowKit
set_option linter.unusedVariables false

theorem readA_at {ws q : List (List UInt8)} {j : Nat} {a : ActS} (h : readA (ws.drop j) = some (a, q)) :
    actK (atW ws j) ≠ 0 ∧ ((actK (atW ws j) = 1 ∨ actK (atW ws j) = 2 ∨ actK (atW ws j) = 5) → a = ⟨actK (atW ws j), [], 0, []⟩ ∧ ws.drop (j + 1) = q) ∧
      (¬ (actK (atW ws j) = 1 ∨ actK (atW ws j) = 2 ∨ actK (atW ws j) = 5) → readX (actK (atW ws j)) (atW ws (j + 1)) = some a ∧ ws.drop (j + 2) = q) := by
  cases hd : ws.drop j with
  | nil => rw [hd] at h; simp [readA] at h
  | cons y r =>
    obtain ⟨hy, hr, _⟩ := drop_at hd
    rw [hd] at h
    rw [hy, hr]
    by_cases h0 : actK y = 0
    · rw [readA_none y r h0] at h; cases h
    refine ⟨h0, fun h1 => ?_, fun h1 => ?_⟩
    · rw [readA_one y r h1] at h
      injection h with h
      injection h with h2 h3
      exact ⟨h2.symm, h3⟩
    · cases r with
      | nil => rw [readA_short y h0 h1] at h; cases h
      | cons x r =>
        obtain ⟨hx, hr2, _⟩ := drop_at hr
        rw [readA_two y x r h0 h1] at h
        obtain ⟨b, h2, h3⟩ := Option.map_eq_some_iff.1 h
        injection h3 with h3 h4
        subst h3
        rw [hx]
        exact ⟨h2, hr2.trans h4⟩
def RaR (ws : List (List UInt8)) (j : Nat) (w : World) (e : Ending) (w' : World) : Prop :=
  ∃ (a : ActS) (i : Nat), e = .returned (.tuple #[.agg (actCs a).toArray, .int .i64 (i : Int)]) ∧ ActIn a ∧ j < i ∧ i ≤ j + 2 ∧ (∀ a' q, readA (ws.drop j) = some (a', q) → a' = a ∧ ws.drop i = q) ∧ Ext w w'
theorem RaR.one {ws : List (List UInt8)} {j : Nat} {w w' : World} (K : Int) (hi : i64 K) (h : actK (atW ws j) = K) (h1 : K = 1 ∨ K = 2 ∨ K = 5 ∨ K = 0) (he : Ext w w') : RaR ws j w (.returned (.tuple #[.agg #[.int .i64 K, .string ⟨#[]⟩, .int .u32 0, .string ⟨#[]⟩], .int .i64 ((j : Int) + 1)])) w' :=
  ⟨⟨K, [], 0, []⟩, j + 1, rfl, ⟨hi, Nat.zero_le _, Nat.zero_le _⟩, by omega, by omega, fun a' q hh => by
    obtain ⟨h0, h2, _⟩ := readA_at hh
    rw [h] at h0 h2
    exact h2 (by omega), he⟩
theorem RaR.two {ws : List (List UInt8)} {j : Nat} {w w' : World} (K : Int) (a : ActS) (hi : ActIn a) (h : actK (atW ws j) = K) (h1 : ¬ (K = 1 ∨ K = 2 ∨ K = 5)) (hx : ∀ a', readX K (atW ws (j + 1)) = some a' → a' = a) (he : Ext w w') : RaR ws j w (.returned (.tuple #[.agg (actCs a).toArray, .int .i64 ((j : Int) + 2)])) w' :=
  ⟨a, j + 2, rfl, hi, by omega, by omega, fun a' q hh => by
    obtain ⟨_, _, h2⟩ := readA_at hh
    rw [h] at h2
    obtain ⟨h3, h4⟩ := h2 h1
    exact ⟨hx a' h3, h4⟩, he⟩
theorem readX_n {K : Int} {x : List UInt8} {a' : ActS} (hk : K = 3 ∨ K = 4 ∨ K = 8) (h : readX K x = some a') : ∃ n : Nat, rdN 10 4294967295 x = some n ∧ a' = ⟨K, [], UInt32.ofNat n, []⟩ := by
  unfold readX at h
  rw [if_pos hk, num_rd] at h
  obtain ⟨n, h1, h2⟩ := Option.map_eq_some_iff.1 h
  exact ⟨n, h1, h2.symm⟩
theorem readX_6 {x : List UInt8} {a' : ActS} (h : readX 6 x = some a') : ∃ c, commO x = some c ∧ a' = ⟨6, [], c, []⟩ := by
  unfold readX at h
  rw [if_neg (by decide), if_pos rfl] at h
  obtain ⟨n, h1, h2⟩ := Option.map_eq_some_iff.1 h
  exact ⟨n, h1, h2.symm⟩
theorem readX_7 {x : List UInt8} {a' : ActS} (h : readX 7 x = some a') : a' = ⟨7, x, 0, []⟩ := by
  unfold readX at h
  rw [if_neg (by decide), if_neg (by decide), if_pos rfl] at h
  injection h with h
  exact h.symm
theorem readX_9 {x : List UInt8} {a' : ActS} (h : readX 9 x = some a') : a' = ⟨9, [], 0, (addrC x).1⟩ := by
  unfold readX at h
  rw [if_neg (by decide), if_neg (by decide), if_neg (by decide), if_pos rfl] at h
  split at h
  · injection h with h
    exact h.symm
  · cases h
theorem readX_10 {x : List UInt8} {a' : ActS} (h : readX 10 x = some a') : ∃ n, originN x = some n ∧ a' = ⟨10, [], UInt32.ofNat n.toNat, []⟩ := by
  unfold readX at h
  rw [if_neg (by decide), if_neg (by decide), if_neg (by decide), if_neg (by decide)] at h
  obtain ⟨n, h1, h2⟩ := Option.map_eq_some_iff.1 h
  exact ⟨n, h1, h2.symm⟩
theorem rdAll_len {b M : Nat} : ∀ (l : List (List UInt8)) (r : List Nat), rdAll b M l = some r → r.length = l.length
  | [], r, h => by simp [rdAll] at h; subst h; rfl
  | x :: l, r, h => by
    simp only [rdAll] at h
    cases h1 : rdN b M x with
    | none => rw [h1] at h; simp at h
    | some n =>
      cases h2 : rdAll b M l with
      | none => rw [h1, h2] at h; simp at h
      | some t =>
        rw [h1, h2] at h
        simp at h
        subst h
        simp [rdAll_len l t h2]
set_option maxRecDepth 20000 in
set_option maxHeartbeats 8000000 in
theorem DReadA_any (g o d : Nat) (ws : List (List UInt8)) (j : Nat) (w : World) (h : Wds w g o ws) (hl : ws.length ≤ 2000000) (hm : ∀ x ∈ ws, x.length ≤ 1048576) (hj : j ≤ 2000001) :
    Calls Tryz.prog 55 #[.slice (some ⟨g, o, none⟩) ws.length d, .int .i64 (j : Int)] w (RaR ws j w) := by
  have ho1 := fun (K : Int) (hi : i64 K) W h h1 (he : Ext w W) => RaR.one (ws := ws) (j := j) (w := w) (w' := W) K hi h h1 he
  have ho2 := fun (K : Int) (a : ActS) hi W h h1 hx (he : Ext w W) => RaR.two (ws := ws) (j := j) (w := w) (w' := W) K a hi h h1 hx he
  generalize RaR ws j w = Post at *
  have R := Blk.new w 51 #[.int .i64 0, .string ⟨#[]⟩, .int .u32 0, .string ⟨#[]⟩]
  have E := (Ext.refl w).alloc (Obj.cells #[.int .i64 0, .string ⟨#[]⟩, .int .u32 0, .string ⟨#[]⟩] 51)
  generalize hWb : w.alloc (Obj.cells #[.int .i64 0, .string ⟨#[]⟩, .int .u32 0, .string ⟨#[]⟩] 51) = W1 at R E
  have q1 : ∀ W, Ext w W → Calls Tryz.prog 53 #[.slice (some ⟨g, o, none⟩) ws.length d, .int .i64 ((j : Int) + 1)] W fun e w' => e = .returned (.string ⟨(atW ws (j + 1)).toArray⟩) ∧ W = w' := fun W e => DAt_any g o d ws (j + 1) W (h.ext e) hl (by omega)
  have q2 := fun W (e : Ext w W) => DAt_any g o d ws j W (h.ext e) hl (by omega)
  have hgw : w.heap.size ≤ w.heap.size := Nat.le_refl _
  generalize hrb : w.heap.size = rb at R hgw
  replace hgw : w.heap.size ≤ rb := by omega
  have hlx := atW_len hm (j + 1)
  generalize hn : ws.length = n at *
  clear h hm hn hl
  generalize atW ws (j + 1) = x at *
  generalize atW ws j = y at *
  have q3 := fun W => DNumber_any x W hlx
  replace ho1 := hide ho1
  replace ho2 := hide ho2
  replace q1 := hide q1
  replace q2 := hide q2
  replace q3 := hide q3
  replace R := hide R
  replace E := hide E
  replace hgw := hide hgw
  replace hlx := hide hlx
  go_enter Tryz.func55, Tryz.ntmps55
  go_wp2_with fail
  clear hWb hrb
  (with_reducible refine (q1.out _ E.out).mono ?_)
  rintro e w_ ⟨rfl, rfl⟩
  clear q1
  go_wp2_with fail
  (with_reducible refine (q3.out _).mono ?_)
  rintro e W2 ⟨xn, hxn, rfl, hxr, he⟩
  obtain ⟨nn, hnn⟩ : ∃ nn : UInt32, IntKind.u32.wrap (xn : Int) = (nn.toNat : Int) := ⟨UInt32.ofNat xn, by rw [IntKind.wrap_u32, UInt32.toNat_ofNat']; omega⟩
  have hn6 : ∀ n, rdN 10 4294967295 x = some n → UInt32.ofNat n = nn := fun n h => by
    have h2 := hxr n h
    subst h2
    rw [IntKind.wrap_u32] at hnn
    exact UInt32.toNat_inj.1 (by rw [UInt32.toNat_ofNat']; omega)
  replace R := R.out.ext he
  replace E := E.out.trans he
  clear he q3 hxn hxr
  replace R := hide R
  replace E := hide E
  replace hn6 := hide hn6
  go_wp2_with fail
  clear hnn
  (with_reducible refine (q2.out _ E.out).mono ?_)
  rintro e w_ ⟨rfl, rfl⟩
  clear q2
  have c0 : W2.cell? ⟨rb, 0, none⟩ = some (.int .i64 0) := R.out.cell 0
  have c1 : W2.cell? ⟨rb, 1, none⟩ = some (.string ⟨#[]⟩) := R.out.cell 1
  have c2 : W2.cell? ⟨rb, 2, none⟩ = some (.int .u32 0) := R.out.cell 2
  have c3 : W2.cell? ⟨rb, 3, none⟩ = some (.string ⟨#[]⟩) := R.out.cell 3
  have cf := fun i => R.out.frozen i
  by_cases hy1 : y = [97, 99, 99, 101, 112, 116]
  · subst hy1
    have hfin := fun W he => ho1.out 1 (⟨by decide, by decide⟩ : i64 1) W (by decide) (by decide) he
    clear ho1 ho2 hn6
    replace hfin := hide hfin
    have hRZ := R.out.fill4 (.int .i64 1) (.string ⟨#[]⟩) (.int .u32 0) (.string ⟨#[]⟩)
    have hEZ := (((E.out.setCell (p := ⟨rb, 0, none⟩) hgw.out (.int .i64 1)).setCell (p := ⟨rb, 1, none⟩) hgw.out (.string ⟨#[]⟩)).setCell (p := ⟨rb, 2, none⟩) hgw.out (.int .u32 0)).setCell (p := ⟨rb, 3, none⟩) hgw.out (.string ⟨#[]⟩)
    have z0 := hRZ.cell 0
    have z1 := hRZ.cell 1
    have z2 := hRZ.cell 2
    have z3 := hRZ.cell 3
    simp at z0 z1 z2 z3
    clear hRZ
    replace hEZ := hide hEZ
    go_wp2_with fail
    exact bodyPost_ret (v := .tuple #[.agg #[.int .i64 1, .string ⟨#[]⟩, .int .u32 0, .string ⟨#[]⟩], .int .i64 ((j : Int) + 1)]) (by simp [results, Tryz.results55, go_sem, z0, z1, z2, z3]) rfl (hfin.out _ hEZ.out)
  have b1 : (y == [97, 99, 99, 101, 112, 116]) = false := beq_eq_false_iff_ne.2 hy1
  by_cases hy2 : y = [114, 101, 106, 101, 99, 116]
  · subst hy2
    have hfin := fun W he => ho1.out 2 (⟨by decide, by decide⟩ : i64 2) W (by decide) (by decide) he
    clear ho1 ho2 hn6
    replace hfin := hide hfin
    have hRZ := R.out.fill4 (.int .i64 2) (.string ⟨#[]⟩) (.int .u32 0) (.string ⟨#[]⟩)
    have hEZ := (((E.out.setCell (p := ⟨rb, 0, none⟩) hgw.out (.int .i64 2)).setCell (p := ⟨rb, 1, none⟩) hgw.out (.string ⟨#[]⟩)).setCell (p := ⟨rb, 2, none⟩) hgw.out (.int .u32 0)).setCell (p := ⟨rb, 3, none⟩) hgw.out (.string ⟨#[]⟩)
    have z0 := hRZ.cell 0
    have z1 := hRZ.cell 1
    have z2 := hRZ.cell 2
    have z3 := hRZ.cell 3
    simp at z0 z1 z2 z3
    clear hRZ
    replace hEZ := hide hEZ
    go_wp2_with fail
    exact bodyPost_ret (v := .tuple #[.agg #[.int .i64 2, .string ⟨#[]⟩, .int .u32 0, .string ⟨#[]⟩], .int .i64 ((j : Int) + 1)]) (by simp [results, Tryz.results55, go_sem, z0, z1, z2, z3]) rfl (hfin.out _ hEZ.out)
  have b2 : (y == [114, 101, 106, 101, 99, 116]) = false := beq_eq_false_iff_ne.2 hy2
  by_cases hy5 : y = [110, 111, 45, 109, 101, 100]
  · subst hy5
    have hfin := fun W he => ho1.out 5 (⟨by decide, by decide⟩ : i64 5) W (by decide) (by decide) he
    clear ho1 ho2 hn6
    replace hfin := hide hfin
    have hRZ := R.out.fill4 (.int .i64 5) (.string ⟨#[]⟩) (.int .u32 0) (.string ⟨#[]⟩)
    have hEZ := (((E.out.setCell (p := ⟨rb, 0, none⟩) hgw.out (.int .i64 5)).setCell (p := ⟨rb, 1, none⟩) hgw.out (.string ⟨#[]⟩)).setCell (p := ⟨rb, 2, none⟩) hgw.out (.int .u32 0)).setCell (p := ⟨rb, 3, none⟩) hgw.out (.string ⟨#[]⟩)
    have z0 := hRZ.cell 0
    have z1 := hRZ.cell 1
    have z2 := hRZ.cell 2
    have z3 := hRZ.cell 3
    simp at z0 z1 z2 z3
    clear hRZ
    replace hEZ := hide hEZ
    go_wp2_with fail
    exact bodyPost_ret (v := .tuple #[.agg #[.int .i64 5, .string ⟨#[]⟩, .int .u32 0, .string ⟨#[]⟩], .int .i64 ((j : Int) + 1)]) (by simp [results, Tryz.results55, go_sem, z0, z1, z2, z3]) rfl (hfin.out _ hEZ.out)
  have b5 : (y == [110, 111, 45, 109, 101, 100]) = false := beq_eq_false_iff_ne.2 hy5
  by_cases hy3 : y = [112, 114, 101, 102]
  · subst hy3
    have hfin := fun W he => ho2.out 3 ⟨3, [], nn, []⟩ ⟨(⟨by decide, by decide⟩ : i64 3), Nat.zero_le _, Nat.zero_le _⟩ W (by decide) (by decide) (fun a' h => by obtain ⟨n, h1, rfl⟩ := readX_n (by decide) h; rw [hn6.out n h1]) he
    clear ho1 ho2 hn6
    replace hfin := hide hfin
    have hRZ := R.out.fill4 (.int .i64 3) (.string ⟨#[]⟩) (.int .u32 (nn.toNat : Int)) (.string ⟨#[]⟩)
    have hEZ := (((E.out.setCell (p := ⟨rb, 0, none⟩) hgw.out (.int .i64 3)).setCell (p := ⟨rb, 1, none⟩) hgw.out (.string ⟨#[]⟩)).setCell (p := ⟨rb, 2, none⟩) hgw.out (.int .u32 (nn.toNat : Int))).setCell (p := ⟨rb, 3, none⟩) hgw.out (.string ⟨#[]⟩)
    have z0 := hRZ.cell 0
    have z1 := hRZ.cell 1
    have z2 := hRZ.cell 2
    have z3 := hRZ.cell 3
    simp at z0 z1 z2 z3
    clear hRZ
    replace hEZ := hide hEZ
    go_wp2_with fail
    exact bodyPost_ret (v := .tuple #[.agg #[.int .i64 3, .string ⟨#[]⟩, .int .u32 (nn.toNat : Int), .string ⟨#[]⟩], .int .i64 ((j : Int) + 2)]) (by simp [results, Tryz.results55, go_sem, z0, z1, z2, z3]) rfl (hfin.out _ hEZ.out)
  have b3 : (y == [112, 114, 101, 102]) = false := beq_eq_false_iff_ne.2 hy3
  by_cases hy4 : y = [109, 101, 100]
  · subst hy4
    have hfin := fun W he => ho2.out 4 ⟨4, [], nn, []⟩ ⟨(⟨by decide, by decide⟩ : i64 4), Nat.zero_le _, Nat.zero_le _⟩ W (by decide) (by decide) (fun a' h => by obtain ⟨n, h1, rfl⟩ := readX_n (by decide) h; rw [hn6.out n h1]) he
    clear ho1 ho2 hn6
    replace hfin := hide hfin
    have hRZ := R.out.fill4 (.int .i64 4) (.string ⟨#[]⟩) (.int .u32 (nn.toNat : Int)) (.string ⟨#[]⟩)
    have hEZ := (((E.out.setCell (p := ⟨rb, 0, none⟩) hgw.out (.int .i64 4)).setCell (p := ⟨rb, 1, none⟩) hgw.out (.string ⟨#[]⟩)).setCell (p := ⟨rb, 2, none⟩) hgw.out (.int .u32 (nn.toNat : Int))).setCell (p := ⟨rb, 3, none⟩) hgw.out (.string ⟨#[]⟩)
    have z0 := hRZ.cell 0
    have z1 := hRZ.cell 1
    have z2 := hRZ.cell 2
    have z3 := hRZ.cell 3
    simp at z0 z1 z2 z3
    clear hRZ
    replace hEZ := hide hEZ
    go_wp2_with fail
    exact bodyPost_ret (v := .tuple #[.agg #[.int .i64 4, .string ⟨#[]⟩, .int .u32 (nn.toNat : Int), .string ⟨#[]⟩], .int .i64 ((j : Int) + 2)]) (by simp [results, Tryz.results55, go_sem, z0, z1, z2, z3]) rfl (hfin.out _ hEZ.out)
  have b4 : (y == [109, 101, 100]) = false := beq_eq_false_iff_ne.2 hy4
  by_cases hy6 : y = [97, 100, 100]
  · subst hy6
    have q5 := fun W => DCParse_any x W hlx.out
    unfold CoR at q5
    have hfin := fun c (hc : ∀ d, commO x = some d → d = c) W he => ho2.out 6 ⟨6, [], c, []⟩ ⟨(⟨by decide, by decide⟩ : i64 6), Nat.zero_le _, Nat.zero_le _⟩ W (by decide) (by decide) (fun a' h => by obtain ⟨n, h1, rfl⟩ := readX_6 h; rw [hc n h1]) he
    clear ho1 ho2 hn6
    cases hco : commO x with
    | none =>
      have hfin2 := fun W he => hfin 0 (fun d h => by rw [h] at hco; cases hco) W he
      rw [hco] at q5
      clear hfin hco
      replace q5 := hide q5
      replace hfin2 := hide hfin2
      go_wp2_with fail
      (with_reducible refine (q5.out _).mono ?_)
      rintro e W3 ⟨rfl, he⟩
      replace R := hide (R.out.ext he)
      replace E := hide (E.out.trans he)
      clear he q5 c0 c1 c2 c3 cf
      have c0 : W3.cell? ⟨rb, 0, none⟩ = some (.int .i64 0) := R.out.cell 0
      have c1 : W3.cell? ⟨rb, 1, none⟩ = some (.string ⟨#[]⟩) := R.out.cell 1
      have c2 : W3.cell? ⟨rb, 2, none⟩ = some (.int .u32 0) := R.out.cell 2
      have c3 : W3.cell? ⟨rb, 3, none⟩ = some (.string ⟨#[]⟩) := R.out.cell 3
      have cf := fun i => R.out.frozen i
      have hRZ := R.out.fill4 (.int .i64 6) (.string ⟨#[]⟩) (.int .u32 0) (.string ⟨#[]⟩)
      have hEZ := (((E.out.setCell (p := ⟨rb, 0, none⟩) hgw.out (.int .i64 6)).setCell (p := ⟨rb, 1, none⟩) hgw.out (.string ⟨#[]⟩)).setCell (p := ⟨rb, 2, none⟩) hgw.out (.int .u32 0)).setCell (p := ⟨rb, 3, none⟩) hgw.out (.string ⟨#[]⟩)
      have z0 := hRZ.cell 0
      have z1 := hRZ.cell 1
      have z2 := hRZ.cell 2
      have z3 := hRZ.cell 3
      simp at z0 z1 z2 z3
      clear hRZ
      replace hEZ := hide hEZ
      go_wp2_with fail
      exact bodyPost_ret (v := .tuple #[.agg #[.int .i64 6, .string ⟨#[]⟩, .int .u32 0, .string ⟨#[]⟩], .int .i64 ((j : Int) + 2)]) (by simp [results, Tryz.results55, go_sem, z0, z1, z2, z3]) rfl (hfin2.out _ hEZ.out)
    | some cc =>
      have hfin2 := fun W he => hfin cc (fun d h => by rw [h] at hco; injection hco) W he
      rw [hco] at q5
      clear hfin hco
      replace q5 := hide q5
      replace hfin2 := hide hfin2
      go_wp2_with fail
      (with_reducible refine (q5.out _).mono ?_)
      rintro e W3 ⟨rfl, he⟩
      replace R := hide (R.out.ext he)
      replace E := hide (E.out.trans he)
      clear he q5 c0 c1 c2 c3 cf
      have c0 : W3.cell? ⟨rb, 0, none⟩ = some (.int .i64 0) := R.out.cell 0
      have c1 : W3.cell? ⟨rb, 1, none⟩ = some (.string ⟨#[]⟩) := R.out.cell 1
      have c2 : W3.cell? ⟨rb, 2, none⟩ = some (.int .u32 0) := R.out.cell 2
      have c3 : W3.cell? ⟨rb, 3, none⟩ = some (.string ⟨#[]⟩) := R.out.cell 3
      have cf := fun i => R.out.frozen i
      have hRZ := R.out.fill4 (.int .i64 6) (.string ⟨#[]⟩) (.int .u32 (cc.toNat : Int)) (.string ⟨#[]⟩)
      have hEZ := (((E.out.setCell (p := ⟨rb, 0, none⟩) hgw.out (.int .i64 6)).setCell (p := ⟨rb, 1, none⟩) hgw.out (.string ⟨#[]⟩)).setCell (p := ⟨rb, 2, none⟩) hgw.out (.int .u32 (cc.toNat : Int))).setCell (p := ⟨rb, 3, none⟩) hgw.out (.string ⟨#[]⟩)
      have z0 := hRZ.cell 0
      have z1 := hRZ.cell 1
      have z2 := hRZ.cell 2
      have z3 := hRZ.cell 3
      simp at z0 z1 z2 z3
      clear hRZ
      replace hEZ := hide hEZ
      go_wp2_with fail
      exact bodyPost_ret (v := .tuple #[.agg #[.int .i64 6, .string ⟨#[]⟩, .int .u32 (cc.toNat : Int), .string ⟨#[]⟩], .int .i64 ((j : Int) + 2)]) (by simp [results, Tryz.results55, go_sem, z0, z1, z2, z3]) rfl (hfin2.out _ hEZ.out)
  have b6 : (y == [97, 100, 100]) = false := beq_eq_false_iff_ne.2 hy6
  by_cases hy7 : y = [100, 101, 108]
  · subst hy7
    have hfin := fun W he => ho2.out 7 ⟨7, x, 0, []⟩ ⟨(⟨by decide, by decide⟩ : i64 7), hlx.out, Nat.zero_le _⟩ W (by decide) (by decide) (fun a' h => readX_7 h) he
    clear ho1 ho2 hn6
    replace hfin := hide hfin
    have hRZ := R.out.fill4 (.int .i64 7) (.string ⟨x.toArray⟩) (.int .u32 0) (.string ⟨#[]⟩)
    have hEZ := (((E.out.setCell (p := ⟨rb, 0, none⟩) hgw.out (.int .i64 7)).setCell (p := ⟨rb, 1, none⟩) hgw.out (.string ⟨x.toArray⟩)).setCell (p := ⟨rb, 2, none⟩) hgw.out (.int .u32 0)).setCell (p := ⟨rb, 3, none⟩) hgw.out (.string ⟨#[]⟩)
    have z0 := hRZ.cell 0
    have z1 := hRZ.cell 1
    have z2 := hRZ.cell 2
    have z3 := hRZ.cell 3
    simp at z0 z1 z2 z3
    clear hRZ
    replace hEZ := hide hEZ
    go_wp2_with fail
    exact bodyPost_ret (v := .tuple #[.agg #[.int .i64 7, .string ⟨x.toArray⟩, .int .u32 0, .string ⟨#[]⟩], .int .i64 ((j : Int) + 2)]) (by simp [results, Tryz.results55, go_sem, z0, z1, z2, z3]) rfl (hfin.out _ hEZ.out)
  have b7 : (y == [100, 101, 108]) = false := beq_eq_false_iff_ne.2 hy7
  by_cases hy8 : y = [112, 114, 101, 112, 101, 110, 100]
  · subst hy8
    have hfin := fun W he => ho2.out 8 ⟨8, [], nn, []⟩ ⟨(⟨by decide, by decide⟩ : i64 8), Nat.zero_le _, Nat.zero_le _⟩ W (by decide) (by decide) (fun a' h => by obtain ⟨n, h1, rfl⟩ := readX_n (by decide) h; rw [hn6.out n h1]) he
    clear ho1 ho2 hn6
    replace hfin := hide hfin
    have hRZ := R.out.fill4 (.int .i64 8) (.string ⟨#[]⟩) (.int .u32 (nn.toNat : Int)) (.string ⟨#[]⟩)
    have hEZ := (((E.out.setCell (p := ⟨rb, 0, none⟩) hgw.out (.int .i64 8)).setCell (p := ⟨rb, 1, none⟩) hgw.out (.string ⟨#[]⟩)).setCell (p := ⟨rb, 2, none⟩) hgw.out (.int .u32 (nn.toNat : Int))).setCell (p := ⟨rb, 3, none⟩) hgw.out (.string ⟨#[]⟩)
    have z0 := hRZ.cell 0
    have z1 := hRZ.cell 1
    have z2 := hRZ.cell 2
    have z3 := hRZ.cell 3
    simp at z0 z1 z2 z3
    clear hRZ
    replace hEZ := hide hEZ
    go_wp2_with fail
    exact bodyPost_ret (v := .tuple #[.agg #[.int .i64 8, .string ⟨#[]⟩, .int .u32 (nn.toNat : Int), .string ⟨#[]⟩], .int .i64 ((j : Int) + 2)]) (by simp [results, Tryz.results55, go_sem, z0, z1, z2, z3]) rfl (hfin.out _ hEZ.out)
  have b8 : (y == [112, 114, 101, 112, 101, 110, 100]) = false := beq_eq_false_iff_ne.2 hy8
  by_cases hy9 : y = [110, 101, 120, 116]
  · subst hy9
    have q5 := fun W => RAddr_any x W
    unfold AdP at q5
    have hla := addrC_len x
    have hfin := fun W he => ho2.out 9 ⟨9, [], 0, (addrC x).1⟩ ⟨(⟨by decide, by decide⟩ : i64 9), Nat.zero_le _, Nat.le_trans hla (by decide)⟩ W (by decide) (by decide) (fun a' h => readX_9 h) he
    clear ho1 ho2 hn6 hla
    generalize (addrC x).1 = ad at *
    generalize (addrC x).2 = ae at *
    replace hfin := hide hfin
    replace q5 := hide q5
    go_wp2_with fail
    (with_reducible refine (q5.out _).mono ?_)
    rintro e W3 ⟨rfl, he⟩
    replace R := hide (R.out.ext he)
    replace E := hide (E.out.trans he)
    clear he q5 c0 c1 c2 c3 cf
    have c0 : W3.cell? ⟨rb, 0, none⟩ = some (.int .i64 0) := R.out.cell 0
    have c1 : W3.cell? ⟨rb, 1, none⟩ = some (.string ⟨#[]⟩) := R.out.cell 1
    have c2 : W3.cell? ⟨rb, 2, none⟩ = some (.int .u32 0) := R.out.cell 2
    have c3 : W3.cell? ⟨rb, 3, none⟩ = some (.string ⟨#[]⟩) := R.out.cell 3
    have cf := fun i => R.out.frozen i
    have hRZ := R.out.fill4 (.int .i64 9) (.string ⟨#[]⟩) (.int .u32 0) (.string ⟨ad.toArray⟩)
    have hEZ := (((E.out.setCell (p := ⟨rb, 0, none⟩) hgw.out (.int .i64 9)).setCell (p := ⟨rb, 1, none⟩) hgw.out (.string ⟨#[]⟩)).setCell (p := ⟨rb, 2, none⟩) hgw.out (.int .u32 0)).setCell (p := ⟨rb, 3, none⟩) hgw.out (.string ⟨ad.toArray⟩)
    have z0 := hRZ.cell 0
    have z1 := hRZ.cell 1
    have z2 := hRZ.cell 2
    have z3 := hRZ.cell 3
    simp at z0 z1 z2 z3
    clear hRZ
    replace hEZ := hide hEZ
    go_wp2_with fail
    exact bodyPost_ret (v := .tuple #[.agg #[.int .i64 9, .string ⟨#[]⟩, .int .u32 0, .string ⟨ad.toArray⟩], .int .i64 ((j : Int) + 2)]) (by simp [results, Tryz.results55, go_sem, z0, z1, z2, z3]) rfl (hfin.out _ hEZ.out)
  have b9 : (y == [110, 101, 120, 116]) = false := beq_eq_false_iff_ne.2 hy9
  by_cases hy10 : y = [111, 114, 105, 103, 105, 110]
  · subst hy10
    have q5 := DOriginOf_any x
    have hob := originF_bd x
    obtain ⟨cc, hcc⟩ : ∃ cc : UInt32, originF x = (cc.toNat : Int) := ⟨UInt32.ofNat (originF x).toNat, by rw [UInt32.toNat_ofNat']; omega⟩
    have hfin := fun W he => ho2.out 10 ⟨10, [], cc, []⟩ ⟨(⟨by decide, by decide⟩ : i64 10), Nat.zero_le _, Nat.zero_le _⟩ W (by decide) (by decide) (fun a' h => by
      obtain ⟨n, h1, rfl⟩ := readX_10 h
      have h2 := originF_n h1
      rw [show UInt32.ofNat n.toNat = cc from UInt32.toNat_inj.1 (by rw [UInt32.toNat_ofNat']; omega)]) he
    rw [hcc] at q5 hob
    have hwc : IntKind.u32.wrap (cc.toNat : Int) = (cc.toNat : Int) := by rw [IntKind.wrap_u32]; omega
    clear ho1 ho2 hn6 hcc hob
    replace hfin := hide hfin
    replace q5 := hide q5
    go_wp2_with fail
    (with_reducible refine (q5.out _).mono ?_)
    rintro e W3 ⟨rfl, he⟩
    replace R := hide (R.out.ext he)
    replace E := hide (E.out.trans he)
    clear he q5 c0 c1 c2 c3 cf
    have c0 : W3.cell? ⟨rb, 0, none⟩ = some (.int .i64 0) := R.out.cell 0
    have c1 : W3.cell? ⟨rb, 1, none⟩ = some (.string ⟨#[]⟩) := R.out.cell 1
    have c2 : W3.cell? ⟨rb, 2, none⟩ = some (.int .u32 0) := R.out.cell 2
    have c3 : W3.cell? ⟨rb, 3, none⟩ = some (.string ⟨#[]⟩) := R.out.cell 3
    have cf := fun i => R.out.frozen i
    have hRZ := R.out.fill4 (.int .i64 10) (.string ⟨#[]⟩) (.int .u32 (cc.toNat : Int)) (.string ⟨#[]⟩)
    have hEZ := (((E.out.setCell (p := ⟨rb, 0, none⟩) hgw.out (.int .i64 10)).setCell (p := ⟨rb, 1, none⟩) hgw.out (.string ⟨#[]⟩)).setCell (p := ⟨rb, 2, none⟩) hgw.out (.int .u32 (cc.toNat : Int))).setCell (p := ⟨rb, 3, none⟩) hgw.out (.string ⟨#[]⟩)
    have z0 := hRZ.cell 0
    have z1 := hRZ.cell 1
    have z2 := hRZ.cell 2
    have z3 := hRZ.cell 3
    simp at z0 z1 z2 z3
    clear hRZ
    replace hEZ := hide hEZ
    go_wp2_with fail
    exact bodyPost_ret (v := .tuple #[.agg #[.int .i64 10, .string ⟨#[]⟩, .int .u32 (cc.toNat : Int), .string ⟨#[]⟩], .int .i64 ((j : Int) + 2)]) (by simp [results, Tryz.results55, go_sem, z0, z1, z2, z3]) rfl (hfin.out _ hEZ.out)
  have b10 : (y == [111, 114, 105, 103, 105, 110]) = false := beq_eq_false_iff_ne.2 hy10
  have hk0 : actK y = 0 := by
    unfold actK
    rw [if_neg hy1, if_neg hy2, if_neg hy3, if_neg hy4, if_neg hy5, if_neg hy6, if_neg hy7, if_neg hy8, if_neg hy9, if_neg hy10]
  have hfin := fun W he => ho1.out 0 (⟨by decide, by decide⟩ : i64 0) W hk0 (by decide) he
  clear ho1 ho2 hn6 hk0 hy1 hy2 hy5 hy3 hy4 hy6 hy7 hy8 hy9 hy10
  replace hfin := hide hfin
  have hRZ := R.out.fill4 (.int .i64 0) (.string ⟨#[]⟩) (.int .u32 0) (.string ⟨#[]⟩)
  have hEZ := (((E.out.setCell (p := ⟨rb, 0, none⟩) hgw.out (.int .i64 0)).setCell (p := ⟨rb, 1, none⟩) hgw.out (.string ⟨#[]⟩)).setCell (p := ⟨rb, 2, none⟩) hgw.out (.int .u32 0)).setCell (p := ⟨rb, 3, none⟩) hgw.out (.string ⟨#[]⟩)
  have z0 := hRZ.cell 0
  have z1 := hRZ.cell 1
  have z2 := hRZ.cell 2
  have z3 := hRZ.cell 3
  simp at z0 z1 z2 z3
  clear hRZ
  replace hEZ := hide hEZ
  go_wp2_with fail
  exact bodyPost_ret (v := .tuple #[.agg #[.int .i64 0, .string ⟨#[]⟩, .int .u32 0, .string ⟨#[]⟩], .int .i64 ((j : Int) + 1)]) (by simp [results, Tryz.results55, go_sem, z0, z1, z2, z3]) rfl (hfin.out _ hEZ.out)
end
end
section
section
open Go.RowKit
set_option linter.unusedVariables false

/-- What stands behind some of a term's conditions, its actions. -/
def remC : List CondS → List (List UInt8) → List (List UInt8)
  | [], A => A
  | c :: l, A => [97, 110, 100] :: (condWs c ++ remC l A)
def remA : List ActS → List (List UInt8)
  | [] => []
  | a :: l => [97, 110, 100] :: (actWs a ++ remA l)
theorem remC_sep : ∀ (c : CondS) (l : List CondS) (A : List (List UInt8)), sepW ((c :: l).map condWs) ++ A = condWs c ++ remC l A
  | c, [], A => rfl
  | c, d :: l, A => by
    have ih := remC_sep d l A
    show (condWs c ++ ([97, 110, 100] :: sepW ((d :: l).map condWs))) ++ A = condWs c ++ ([97, 110, 100] :: (condWs d ++ remC l A))
    rw [List.append_assoc, List.cons_append, ih]
theorem remA_sep : ∀ (a : ActS) (l : List ActS), sepW ((a :: l).map actWs) = actWs a ++ remA l
  | a, [] => by show actWs a = actWs a ++ []; simp
  | a, b :: l => by
    have ih := remA_sep b l
    show actWs a ++ ([97, 110, 100] :: sepW ((b :: l).map actWs)) = actWs a ++ ([97, 110, 100] :: (actWs b ++ remA l))
    rw [ih]
def thenW (t : TermS) : List (List UInt8) := [116, 104, 101, 110] :: sepW (t.acts.map actWs)
/-- How far the document has read a term's conditions, at place k. -/
def Rc (ws : List (List UInt8)) (t : TermS) (k : Nat) (L : List CondS) : Prop :=
  ∃ l', t.conds = L ++ l' ∧ ((k = 0 ∧ ∃ c l, l' = c :: l ∧ ws.drop 1 = condWs c ++ remC l (thenW t)) ∨ (k ≠ 0 ∧ ws.drop k = remC l' (thenW t)))
/-- .. its actions. -/
def Ra (ws : List (List UInt8)) (t : TermS) (k : Nat) (first : Bool) (L : List ActS) : Prop :=
  ∃ l', t.acts = L ++ l' ∧ ((first = true ∧ k < ws.length ∧ ∃ a l, l' = a :: l ∧ ws.drop (k + 1) = actWs a ++ remA l) ∨ (first = false ∧ ws.drop k = remA l'))
section
variable {ws : List (List UInt8)} {t : TermS} {k : Nat} {L : List CondS} {M : List ActS} {b : Bool}
theorem at_drop {x : List UInt8} {r : List (List UInt8)} (h : ws.drop k = x :: r) : atW ws k = x ∧ ws.drop (k + 1) = r ∧ k < ws.length := drop_at h
theorem Rc.step (h : Rc ws t k L) (hok : ∀ c ∈ t.conds, condOk c = true) (hk : k = 0 ∨ (k ≠ 0 ∧ atW ws k = [97, 110, 100])) : ∃ c q, readC (ws.drop (k + 1)) = some (c, q) ∧ ∀ i, k + 1 < i → ws.drop i = q → Rc ws t i (L ++ [c]) := by
  obtain ⟨l', h1, h2⟩ := h
  have fin : ∀ c l, l' = c :: l → ws.drop (k + 1) = condWs c ++ remC l (thenW t) → ∃ c q, readC (ws.drop (k + 1)) = some (c, q) ∧ ∀ i, k + 1 < i → ws.drop i = q → Rc ws t i (L ++ [c]) := fun c l e h3 => by
    subst e
    refine ⟨c, remC l (thenW t), ?_, fun i hi hd => ⟨l, by rw [h1]; simp, .inr ⟨by omega, hd⟩⟩⟩
    rw [h3]
    exact readC_ws c (hok c (by rw [h1]; simp)) _
  rcases h2 with ⟨rfl, c, l, e, h3⟩ | ⟨h0, h3⟩
  · exact fin c l e h3
  · rcases hk with hk | ⟨_, hk⟩
    · exact absurd hk h0
    cases l' with
    | nil =>
      obtain ⟨h4, _, _⟩ := at_drop (show ws.drop k = [116, 104, 101, 110] :: _ from h3)
      rw [h4] at hk
      exact absurd hk (by decide)
    | cons c l =>
      obtain ⟨_, h4, _⟩ := at_drop (show ws.drop k = [97, 110, 100] :: _ from h3)
      exact fin c l rfl h4
theorem Rc.done (h : Rc ws t k L) (hn : 0 < ws.length) (hk : ¬ k < ws.length ∨ (k ≠ 0 ∧ atW ws k ≠ [97, 110, 100])) : t.conds = L ∧ ws.drop k = thenW t := by
  obtain ⟨l', h1, h2⟩ := h
  rcases h2 with ⟨rfl, _⟩ | ⟨h0, h3⟩
  · rcases hk with hk | ⟨hk, _⟩
    · exact absurd hn hk
    · exact absurd rfl hk
  · cases l' with
    | nil => exact ⟨by rw [h1]; simp, h3⟩
    | cons c l =>
      obtain ⟨h4, _, h5⟩ := at_drop (show ws.drop k = [97, 110, 100] :: _ from h3)
      rcases hk with hk | ⟨_, hk⟩
      · exact absurd h5 hk
      · exact absurd h4 hk
theorem Ra.step (h : Ra ws t k b M) (hok : ∀ a ∈ t.acts, actOk a = true) (hk : b = true ∨ (b = false ∧ atW ws k = [97, 110, 100])) (hlt : k < ws.length) : ∃ a q, readA (ws.drop (k + 1)) = some (a, q) ∧ ∀ i, ws.drop i = q → Ra ws t i false (M ++ [a]) := by
  obtain ⟨l', h1, h2⟩ := h
  have fin : ∀ c l, l' = c :: l → ws.drop (k + 1) = actWs c ++ remA l → ∃ c q, readA (ws.drop (k + 1)) = some (c, q) ∧ ∀ i, ws.drop i = q → Ra ws t i false (M ++ [c]) := fun c l e h3 => by
    subst e
    refine ⟨c, remA l, ?_, fun i hd => ⟨l, by rw [h1]; simp, .inr ⟨rfl, hd⟩⟩⟩
    rw [h3]
    exact readA_ws c (hok c (by rw [h1]; simp)) _
  rcases h2 with ⟨rfl, _, c, l, e, h3⟩ | ⟨rfl, h3⟩
  · exact fin c l e h3
  · cases l' with
    | nil =>
      have h4 : ws.drop k = [] := h3
      rw [List.drop_eq_nil_iff] at h4
      omega
    | cons c l =>
      obtain ⟨_, h4, _⟩ := at_drop (show ws.drop k = [97, 110, 100] :: _ from h3)
      exact fin c l rfl h4
theorem Ra.done (h : Ra ws t k b M) (hk : ¬ k < ws.length ∨ (b = false ∧ atW ws k ≠ [97, 110, 100])) : t.acts = M := by
  obtain ⟨l', h1, h2⟩ := h
  rcases h2 with ⟨rfl, hlt, _⟩ | ⟨rfl, h3⟩
  · rcases hk with hk | ⟨hk, _⟩
    · exact absurd hlt hk
    · cases hk
  · cases l' with
    | nil => rw [h1]; simp
    | cons c l =>
      obtain ⟨h4, _, h5⟩ := at_drop (show ws.drop k = [97, 110, 100] :: _ from h3)
      rcases hk with hk | ⟨_, hk⟩
      · exact absurd h5 hk
      · exact absurd h4 hk
theorem Ra.start (hd : ws.drop k = thenW t) (h1 : t.acts ≠ []) : Ra ws t k true [] := by
  obtain ⟨_, h2, h3⟩ := at_drop (show ws.drop k = [116, 104, 101, 110] :: _ from hd)
  cases ha : t.acts with
  | nil => exact absurd ha h1
  | cons a l =>
    rw [ha] at h2
    exact ⟨a :: l, by rw [ha]; rfl, .inl ⟨rfl, h3, a, l, rfl, by rw [h2, remA_sep]⟩⟩
end
theorem term_start {s : List UInt8} {t : TermS} (h : termO s = some t) : (∀ c ∈ t.conds, condOk c = true) ∧ (∀ a ∈ t.acts, actOk a = true) ∧ t.acts ≠ [] ∧
    (atW (spl 32 s) 0 = [105, 102] → Rc (spl 32 s) t 0 []) ∧ (atW (spl 32 s) 0 ≠ [105, 102] → t.conds = [] ∧ (spl 32 s).drop 0 = thenW t) := by
  obtain ⟨hok, htx⟩ := termO_ok h
  have hs : termW t = s := by
    unfold termT at htx
    rw [if_pos hok] at htx
    injection htx
  have hw := spl_term hok
  rw [hs] at hw
  obtain ⟨k1, k2, k3, k4, k5⟩ := ok_of_term hok
  have hne : t.acts ≠ [] := by intro e; rw [e] at k2; simp at k2
  refine ⟨k4, k5, hne, ?_⟩
  rw [hw]
  unfold termWs
  cases hc : t.conds with
  | nil =>
    rw [if_pos rfl, List.nil_append]
    refine ⟨fun h => ?_, fun _ => ⟨rfl, rfl⟩⟩
    have : ([116, 104, 101, 110] : List UInt8) = [105, 102] := h
    exact absurd this (by decide)
  | cons c l =>
    rw [if_neg (by simp), List.cons_append]
    refine ⟨fun _ => ⟨c :: l, hc, .inl ⟨rfl, c, l, rfl, ?_⟩⟩, fun h => absurd rfl h⟩
    show sepW ((c :: l).map condWs) ++ ([116, 104, 101, 110] :: sepW (t.acts.map actWs)) = _
    rw [remC_sep]
    rfl
def TdP (s : List UInt8) (w : World) (e : Ending) (w' : World) : Prop :=
  (match termO s with
    | some t => ∃ v1 v2, e = .returned (.tuple #[.agg #[v1, v2], .bool true]) ∧ Own ECond 48 w' w.heap.size v1 t.conds ∧ Own EAct 51 w' w.heap.size v2 t.acts
    | none => e = .returned (.tuple #[.agg #[.slice none 0 0, .slice none 0 0], .bool false])) ∧ Ext w w'
theorem TdP.ok {s : List UInt8} {t : TermS} {w w' : World} {v1 v2 : Value} (h : termO s = some t) (o1 : Own ECond 48 w' w.heap.size v1 t.conds) (o2 : Own EAct 51 w' w.heap.size v2 t.acts) (he : Ext w w') : TdP s w (.returned (.tuple #[.agg #[v1, v2], .bool true])) w' := by
  unfold TdP; rw [h]; exact ⟨⟨v1, v2, rfl, o1, o2⟩, he⟩
theorem TdP.no {s : List UInt8} {w w' : World} (h : termO s = none) (he : Ext w w') : TdP s w (.returned (.tuple #[.agg #[.slice none 0 0, .slice none 0 0], .bool false])) w' := by
  unfold TdP; rw [h]; exact ⟨rfl, he⟩
end
section
open Go.RowKit
set_option linter.unusedVariables false

theorem own_sl {α : Type} {E : Enc α} {e : TypeId} {w : World} {B n c : Nat} {a : Option Addr} {l : List α} (h : Own E e w B (.slice a n c) l) : Sl E w (fun b => B ≤ b ∧ b < w.heap.size) a l := by
  obtain ⟨a', c', h1, h2⟩ := h.sl
  injection h1 with h1 _ _
  subst h1
  exact h2
set_option maxRecDepth 20000 in
set_option maxHeartbeats 8000000 in
theorem DTerm_any (s : List UInt8) (hs : s.length ≤ 1048576) (w : World) (hT : Tab w) (hD : Deb w) :
    Calls Tryz.prog 22 #[.string ⟨s.toArray⟩] w (TdP s w) := by
  have hok := fun t W v1 v2 h o1 o2 he => TdP.ok (s := s) (t := t) (w := w) (w' := W) (v1 := v1) (v2 := v2) h o1 o2 he
  have hno := fun W h he => TdP.no (s := s) (w := w) (w' := W) h he
  generalize TdP s w = Post at *
  have hst := fun t h => term_start (s := s) (t := t) h
  have hpl := spl_len 32 s
  have hcn := spl_cnt 32 s.length s (Nat.le_refl _)
  have hne := spl_ne 32 s
  have q0 := fun W => RSplit32 s hs W
  have hto : ∀ u : TermS, termT u = (s, 0) → termO s = some u := fun u hu => by
    unfold termT at hu
    split at hu
    · rename_i h1
      injection hu with hu
      rw [← hu]
      exact termO_text h1
    · injection hu with _ hu
      cases hu
  have hsome := fun t (h : termO s = some t) => (termO_ok h).2
  generalize spl 32 s = ws at *
  have hm : ∀ x ∈ ws, x.length ≤ 1048576 := fun x hx => Nat.le_trans (hpl x hx) hs
  have hn0 : 0 < ws.length := List.length_pos_iff.2 hne
  have hn : ws.length ≤ 1048577 := by omega
  generalize hO : termO s = tt at *
  unfold SpR at q0
  have R := Blk.new w 25 #[.slice none 0 0, .slice none 0 0]
  have E := (Ext.refl w).alloc (Obj.cells #[.slice none 0 0, .slice none 0 0] 25)
  generalize hW0 : w.alloc (Obj.cells #[.slice none 0 0, .slice none 0 0] 25) = W0 at R E
  have hgw : w.heap.size ≤ w.heap.size := Nat.le_refl _
  generalize hrb : w.heap.size = rb at R hgw
  replace hgw : w.heap.size ≤ rb := by omega
  clear hpl hcn hne
  replace hok := hide hok
  replace hno := hide hno
  replace hst := hide hst
  replace q0 := hide q0
  replace hto := hide hto
  replace hsome := hide hsome
  replace hm := hide hm
  replace hn0 := hide hn0
  replace hn := hide hn
  replace R := hide R
  replace E := hide E
  replace hT := hide hT
  replace hD := hide hD
  replace hgw := hide hgw
  go_enter Tryz.func22, Tryz.ntmps22
  go_wp2_with fail
  clear hW0 hrb
  (with_reducible refine (q0.out _).mono ?_)
  rintro e W1 ⟨he, g, o, d, rfl, hd, hc⟩
  have P := Blk.new W1 25 #[.slice none 0 0, .slice none 0 0]
  have F := (Ext.refl W1).alloc (Obj.cells #[.slice none 0 0, .slice none 0 0] 25)
  replace R := R.out.ext he
  replace E := E.out.trans he
  have hW : Wds W1 g o ws := hc
  have hgb : rb < W1.heap.size := R.lt
  generalize hW2 : W1.alloc (Obj.cells #[.slice none 0 0, .slice none 0 0] 25) = W2 at P F
  have hgz : W1.heap.size ≤ W1.heap.size := Nat.le_refl _
  generalize htb : W1.heap.size = tb at P hgb hgz
  replace hgz : W1.heap.size ≤ tb := by omega
  have hgz2 : tb ≤ W1.heap.size := by omega
  clear he hc hd
  have qa := fun (i : Nat) (hi : i ≤ 3000000) W (e : Ext W1 W) => DAt_any g o d ws i W (hW.ext e) (by have := hn.out; omega) hi
  have qa0 : ∀ W, Ext W1 W → Calls Tryz.prog 53 #[.slice (some ⟨g, o, none⟩) ws.length d, .int .i64 0] W fun e w' => e = .returned (.string ⟨(atW ws 0).toArray⟩) ∧ W = w' := fun W e => qa 0 (by decide) W e
  have qc : ∀ (i : Nat), i ≤ 2000000 → ∀ W, Ext W1 W → Calls Tryz.prog 54 #[.slice (some ⟨g, o, none⟩) ws.length d, .int .i64 ((i : Int) + 1)] W (RcR ws (i + 1) W) := fun i hi W e => DReadC_any g o d ws (i + 1) W (hW.ext e) (by have := hn.out; omega) hm.out (by omega)
  have qx : ∀ (i : Nat), i ≤ 2000000 → ∀ W, Ext W1 W → Calls Tryz.prog 55 #[.slice (some ⟨g, o, none⟩) ws.length d, .int .i64 ((i : Int) + 1)] W (RaR ws (i + 1) W) := fun i hi W e => DReadA_any g o d ws (i + 1) W (hW.ext e) (by have := hn.out; omega) hm.out (by omega)
  unfold RcR at qc
  unfold RaR at qx
  clear q0 hW
  generalize hnn : ws.length = n at *
  replace R := hide R
  replace E := hide E
  replace P := hide P
  replace F := hide F
  replace qa := hide qa
  replace qa0 := hide qa0
  replace qc := hide qc
  replace qx := hide qx
  replace hgb := hide hgb
  replace hgz := hide hgz
  replace hgz2 := hide hgz2
  replace hnn := hide hnn
  go_wp2_with fail
  clear hW2 htb
  (with_reducible refine (qa0.out _ F.out).mono ?_)
  rintro e w_ ⟨rfl, rfl⟩
  clear qa0
  go_upto_if 18 with fail
  go_cut [6] from 17 to 46 (fun s6 wx => ∃ (k : Nat) (L : List CondS) (a1 : Option Addr) (c1 : Nat), s6 = .int .i64 (k : Int) ∧ k ≤ 1048590 ∧ L.length ≤ k ∧ Ext W1 wx ∧ Blk wx tb 25 #[.slice a1 L.length c1, .slice none 0 0] ∧ Own ECond 48 wx (tb + 1) (.slice a1 L.length c1) L ∧ ∀ t, tt = some t → t.conds = L ∧ ws.drop k = thenW t)
  case first =>
    by_cases hif : atW ws 0 = [105, 102]
    · have hr0 : ∀ t, tt = some t → Rc ws t 0 [] := fun t h => (hst.out t h).2.2.2.1 hif
      have hcok : ∀ t, tt = some t → ∀ c ∈ t.conds, condOk c = true := fun t h => (hst.out t h).1
      rw [hif]
      clear hif
      replace hr0 := hide hr0
      replace hcok := hide hcok
      go_wp2_with fail
      go_loopw [6] (fun s6 wx => ∃ (k : Nat) (L : List CondS) (a1 : Option Addr) (c1 : Nat), s6 = .int .i64 (k : Int) ∧ k ≤ n + 3 ∧ L.length ≤ k ∧ Ext W1 wx ∧ Blk wx tb 25 #[.slice a1 L.length c1, .slice none 0 0] ∧ Own ECond 48 wx (tb + 1) (.slice a1 L.length c1) L ∧ ∀ t, tt = some t → Rc ws t k L) (fun s6 _ => n + 5 - (intOf s6).toNat)
      case atStart => exact ⟨0, [], none, 0, rfl, by omega, Nat.le_refl _, F.out, P.out, Own.nil, hr0.out⟩
      case round =>
        obtain ⟨k, L, a1, c1, rfl, hk, hL, F, P, O, hI⟩ := hrel
        have hk9 : k ≤ 1048590 := by have := hn.out; omega
        have q1 := qa.out k (by have := hn.out; omega) wr F
        have q2 := fun W (e : Ext wr W) => qc.out k (by have := hn.out; omega) W (F.trans e)
        have hcase : (k < n ∧ k = 0) ∨ (k < n ∧ k ≠ 0 ∧ atW ws k = [97, 110, 100]) ∨ (k < n ∧ k ≠ 0 ∧ atW ws k ≠ [97, 110, 100]) ∨ ¬ k < n := by
          by_cases h1 : k < n
          · by_cases h2 : k = 0
            · exact .inl ⟨h1, h2⟩
            · by_cases h3 : atW ws k = [97, 110, 100]
              · exact .inr (.inl ⟨h1, h2, h3⟩)
              · exact .inr (.inr (.inl ⟨h1, h2, h3⟩))
          · exact .inr (.inr (.inr h1))
        by_cases hgo : (k < n ∧ k = 0) ∨ (k < n ∧ k ≠ 0 ∧ atW ws k = [97, 110, 100])
        · have hlt : k < n := by rcases hgo with h | h <;> exact h.1
          have hstp : ∀ t, tt = some t → ∃ c q, readC (ws.drop (k + 1)) = some (c, q) ∧ ∀ i, k + 1 < i → ws.drop i = q → Rc ws t i (L ++ [c]) := fun t h => (hI t h).step (hcok.out t h) (by
            rcases hgo with ⟨_, h⟩ | ⟨_, h1, h2⟩
            · exact .inl h
            · exact .inr ⟨h1, h2⟩)
          clear hcase hI
          replace F := hide F
          replace P := hide P
          replace O := hide O
          replace hstp := hide hstp
          replace q1 := hide q1
          replace q2 := hide q2
          have he0 : (k = 0 ∧ ((k : Int) == 0) = true) ∨ (k ≠ 0 ∧ atW ws k = [97, 110, 100] ∧ ((k : Int) == 0) = false) := by
            rcases hgo with ⟨_, h⟩ | ⟨_, h1, h2⟩
            · exact .inl ⟨h, by rw [beq_iff_eq]; omega⟩
            · exact .inr ⟨h1, h2, by rw [beq_eq_false_iff_ne]; omega⟩
          clear hgo
          rcases he0 with ⟨h0, e0⟩ | ⟨h0, hand, e0⟩
          · clear q1 h0
            go_wp2_with fail
            clear e0
            (with_reducible refine (q2.out _ (Ext.refl _)).mono ?_)
            rintro e w4 ⟨cc, i, rfl, hci, hi1, hi2, hrd, he⟩
            have hI2 : ∀ t, tt = some t → Rc ws t i (L ++ [cc]) := fun t h => by
              obtain ⟨c', q, h1, h2⟩ := hstp.out t h
              obtain ⟨rfl, h3⟩ := hrd c' q h1
              exact h2 i hi1 h3
            replace F := F.out.trans he
            replace P := P.out.ext he
            replace O := O.out.ext he
            have hcl1 : (L ++ [cc]).length = L.length + 1 := by simp
            have hLn : L.length ≤ 2000000 := by have := hn.out; omega
            clear he hrd hstp q2
            have hox := (O.alloc (Obj.cells (condCs cc).toArray 48)).alloc (Obj.cells (condCs cc).toArray 48)
            have F5 := (F.alloc (Obj.cells (condCs cc).toArray 48)).alloc (Obj.cells (condCs cc).toArray 48)
            have p0 : (w4.alloc (Obj.cells (condCs cc).toArray 48)).cell? ⟨tb, 0, none⟩ = some (.slice a1 L.length c1) := (P.alloc (Obj.cells (condCs cc).toArray 48)).cell 0
            have P5 := (P.alloc (Obj.cells (condCs cc).toArray 48)).alloc (Obj.cells (condCs cc).toArray 48)
            have hW5 : tb + 1 ≤ ((w4.alloc (Obj.cells (condCs cc).toArray 48)).alloc (Obj.cells (condCs cc).toArray 48)).heap.size := by have := P.lt; simp; omega
            clear F P O
            have hcell := cells_new (w4.alloc (Obj.cells (condCs cc).toArray 48)) (condCs cc).toArray 48
            rw [show (w4.alloc (Obj.cells (condCs cc).toArray 48)).heap.size = w4.heap.size + 1 by simp] at hcell
            have hER : ECond.R ((w4.alloc (Obj.cells (condCs cc).toArray 48)).alloc (Obj.cells (condCs cc).toArray 48)) (fun b => tb + 1 ≤ b ∧ b < ((w4.alloc (Obj.cells (condCs cc).toArray 48)).alloc (Obj.cells (condCs cc).toArray 48)).heap.size ∧ some b ≠ (Value.slice a1 L.length c1).ownBlock) cc (condCs cc) := ⟨rfl, hci⟩
            obtain ⟨y0, y1, y2, y3⟩ := cc
            have hxs : (condCs ⟨y0, y1, y2, y3⟩).toArray = #[.int .i64 y0, .bool y1, .string ⟨y2.toArray⟩, .int .i64 y3] := rfl
            have hxl : condCs ⟨y0, y1, y2, y3⟩ = [.int .i64 y0, .bool y1, .string ⟨y2.toArray⟩, .int .i64 y3] := rfl
            rw [hxs] at hox F5 P5 p0 hW5 hcell hER ⊢
            rw [hxl] at hER
            replace hcell : ∀ (j : Nat) (u : Value), ([.int .i64 y0, .bool y1, .string ⟨y2.toArray⟩, .int .i64 y3] : List Value)[j]? = some u → _ := hcell
            replace F5 := hide F5
            replace hox := hide hox
            replace P5 := hide P5
            replace hI2 := hide hI2
            replace hci := hide hci
            replace hER := hide hER
            replace hcell := hide hcell
            replace hW5 := hide hW5
            replace hcl1 := hide hcl1
            clear hxs hxl
            go_wp2_with (
              at_builtin
              go_must (refine wpList_push (E := ECond) rfl _ _ _ rfl okCond (by decide) (by decide) rfl hox.out (by omega) hW5.out rfl hER.out hcell.out ?_)
              intro v' w5 hown1 hg5 hat5
              obtain ⟨va5, vc5, rfl⟩ := hown1.form
              rw [hcl1.out] at hown1 ⊢
              have hab : some tb ≠ (Value.slice a1 L.length c1).ownBlock := fun h => by have := (hox.out.lt tb h.symm).1; omega
              have P6 := P5.out.grown hg5 hab
              have F6 := F5.out.push (fun k hk => by have := (hox.out.lt k hk).1; have := hgz.out; omega) hg5
              have P7 : Blk (w5.setCell ⟨tb, 0, none⟩ (.slice va5 (L.length + 1) vc5)) tb 25 #[.slice va5 (L.length + 1) vc5, .slice none 0 0] := P6.set_ 0 (.slice va5 (L.length + 1) vc5)
              have O7 := hown1.asideS (p := ⟨tb, 0, none⟩) (show tb < tb + 1 by omega) (.slice va5 (L.length + 1) vc5)
              have F7 := F6.setCell (p := ⟨tb, 0, none⟩) hgz.out (.slice va5 (L.length + 1) vc5)
              clear p0
              have p0 : w5.cell? ⟨tb, 0, none⟩ = some (.slice a1 L.length c1) := P6.cell 0
              have pf := fun i => P6.frozen i
              clear P6 F6 hown1 hab hg5 hat5 hox P5 F5 hW5 hER hcell
              replace P7 := hide P7
              replace O7 := hide O7
              replace F7 := hide F7
              skip)
            clear p0 pf
            generalize w5.setCell ⟨tb, 0, none⟩ (.slice va5 (L.length + 1) vc5) = W6 at P7 O7 F7 ⊢
            go_roundw
            case rel => first | exact ⟨i, L ++ [⟨y0, y1, y2, y3⟩], va5, vc5, rfl, by have := hn.out; omega, by rw [hcl1.out]; omega, F7.out, by rw [hcl1.out]; exact P7.out, by rw [hcl1.out]; exact O7.out, hI2.out⟩ | ((repeat apply Exists.intro); exact ⟨⟨i, L ++ [⟨y0, y1, y2, y3⟩], va5, vc5, rfl, by have := hn.out; omega, by rw [hcl1.out]; omega, F7.out, by rw [hcl1.out]; exact P7.out, by rw [hcl1.out]; exact O7.out, hI2.out⟩, rfl⟩)
            case measure => simp [intOf]; omega
          · rw [hand] at q1
            clear h0 hand
            go_wp2_with fail
            (with_reducible refine q1.out.mono ?_)
            rintro e w_ ⟨rfl, rfl⟩
            clear q1
            go_wp2_with fail
            clear e0
            (with_reducible refine (q2.out _ (Ext.refl _)).mono ?_)
            rintro e w4 ⟨cc, i, rfl, hci, hi1, hi2, hrd, he⟩
            have hI2 : ∀ t, tt = some t → Rc ws t i (L ++ [cc]) := fun t h => by
              obtain ⟨c', q, h1, h2⟩ := hstp.out t h
              obtain ⟨rfl, h3⟩ := hrd c' q h1
              exact h2 i hi1 h3
            replace F := F.out.trans he
            replace P := P.out.ext he
            replace O := O.out.ext he
            have hcl1 : (L ++ [cc]).length = L.length + 1 := by simp
            have hLn : L.length ≤ 2000000 := by have := hn.out; omega
            clear he hrd hstp q2
            have hox := (O.alloc (Obj.cells (condCs cc).toArray 48)).alloc (Obj.cells (condCs cc).toArray 48)
            have F5 := (F.alloc (Obj.cells (condCs cc).toArray 48)).alloc (Obj.cells (condCs cc).toArray 48)
            have p0 : (w4.alloc (Obj.cells (condCs cc).toArray 48)).cell? ⟨tb, 0, none⟩ = some (.slice a1 L.length c1) := (P.alloc (Obj.cells (condCs cc).toArray 48)).cell 0
            have P5 := (P.alloc (Obj.cells (condCs cc).toArray 48)).alloc (Obj.cells (condCs cc).toArray 48)
            have hW5 : tb + 1 ≤ ((w4.alloc (Obj.cells (condCs cc).toArray 48)).alloc (Obj.cells (condCs cc).toArray 48)).heap.size := by have := P.lt; simp; omega
            clear F P O
            have hcell := cells_new (w4.alloc (Obj.cells (condCs cc).toArray 48)) (condCs cc).toArray 48
            rw [show (w4.alloc (Obj.cells (condCs cc).toArray 48)).heap.size = w4.heap.size + 1 by simp] at hcell
            have hER : ECond.R ((w4.alloc (Obj.cells (condCs cc).toArray 48)).alloc (Obj.cells (condCs cc).toArray 48)) (fun b => tb + 1 ≤ b ∧ b < ((w4.alloc (Obj.cells (condCs cc).toArray 48)).alloc (Obj.cells (condCs cc).toArray 48)).heap.size ∧ some b ≠ (Value.slice a1 L.length c1).ownBlock) cc (condCs cc) := ⟨rfl, hci⟩
            obtain ⟨y0, y1, y2, y3⟩ := cc
            have hxs : (condCs ⟨y0, y1, y2, y3⟩).toArray = #[.int .i64 y0, .bool y1, .string ⟨y2.toArray⟩, .int .i64 y3] := rfl
            have hxl : condCs ⟨y0, y1, y2, y3⟩ = [.int .i64 y0, .bool y1, .string ⟨y2.toArray⟩, .int .i64 y3] := rfl
            rw [hxs] at hox F5 P5 p0 hW5 hcell hER ⊢
            rw [hxl] at hER
            replace hcell : ∀ (j : Nat) (u : Value), ([.int .i64 y0, .bool y1, .string ⟨y2.toArray⟩, .int .i64 y3] : List Value)[j]? = some u → _ := hcell
            replace F5 := hide F5
            replace hox := hide hox
            replace P5 := hide P5
            replace hI2 := hide hI2
            replace hci := hide hci
            replace hER := hide hER
            replace hcell := hide hcell
            replace hW5 := hide hW5
            replace hcl1 := hide hcl1
            clear hxs hxl
            go_wp2_with (
              at_builtin
              go_must (refine wpList_push (E := ECond) rfl _ _ _ rfl okCond (by decide) (by decide) rfl hox.out (by omega) hW5.out rfl hER.out hcell.out ?_)
              intro v' w5 hown1 hg5 hat5
              obtain ⟨va5, vc5, rfl⟩ := hown1.form
              rw [hcl1.out] at hown1 ⊢
              have hab : some tb ≠ (Value.slice a1 L.length c1).ownBlock := fun h => by have := (hox.out.lt tb h.symm).1; omega
              have P6 := P5.out.grown hg5 hab
              have F6 := F5.out.push (fun k hk => by have := (hox.out.lt k hk).1; have := hgz.out; omega) hg5
              have P7 : Blk (w5.setCell ⟨tb, 0, none⟩ (.slice va5 (L.length + 1) vc5)) tb 25 #[.slice va5 (L.length + 1) vc5, .slice none 0 0] := P6.set_ 0 (.slice va5 (L.length + 1) vc5)
              have O7 := hown1.asideS (p := ⟨tb, 0, none⟩) (show tb < tb + 1 by omega) (.slice va5 (L.length + 1) vc5)
              have F7 := F6.setCell (p := ⟨tb, 0, none⟩) hgz.out (.slice va5 (L.length + 1) vc5)
              clear p0
              have p0 : w5.cell? ⟨tb, 0, none⟩ = some (.slice a1 L.length c1) := P6.cell 0
              have pf := fun i => P6.frozen i
              clear P6 F6 hown1 hab hg5 hat5 hox P5 F5 hW5 hER hcell
              replace P7 := hide P7
              replace O7 := hide O7
              replace F7 := hide F7
              skip)
            clear p0 pf
            generalize w5.setCell ⟨tb, 0, none⟩ (.slice va5 (L.length + 1) vc5) = W6 at P7 O7 F7 ⊢
            go_roundw
            case rel => first | exact ⟨i, L ++ [⟨y0, y1, y2, y3⟩], va5, vc5, rfl, by have := hn.out; omega, by rw [hcl1.out]; omega, F7.out, by rw [hcl1.out]; exact P7.out, by rw [hcl1.out]; exact O7.out, hI2.out⟩ | ((repeat apply Exists.intro); exact ⟨⟨i, L ++ [⟨y0, y1, y2, y3⟩], va5, vc5, rfl, by have := hn.out; omega, by rw [hcl1.out]; omega, F7.out, by rw [hcl1.out]; exact P7.out, by rw [hcl1.out]; exact O7.out, hI2.out⟩, rfl⟩)
            case measure => simp [intOf]; omega
        · have hnot : ¬ k < n ∨ (k ≠ 0 ∧ atW ws k ≠ [97, 110, 100]) := by
            rcases hcase with h | h | ⟨_, h⟩ | h
            · exact absurd (.inl h) hgo
            · exact absurd (.inr h) hgo
            · exact .inr h
            · exact .inl h
          have hend : ∀ t, tt = some t → t.conds = L ∧ ws.drop k = thenW t := fun t h => (hI t h).done (by have := hn0.out; have := hnn.out; omega) (by have := hnn.out; rcases hnot with h | h; exact .inl (by omega); exact .inr h)
          clear hcase hgo hI q2
          have hk5 : k ≤ 1048590 := by have := hn.out; omega
          replace F := hide F
          replace P := hide P
          replace O := hide O
          replace hend := hide hend
          replace hk5 := hide hk5
          rcases hnot with hnot | ⟨h0, hand⟩
          · clear q1
            go_wp2_with fail
            go_meet
            case rel => exact ⟨k, L, a1, c1, rfl, hk5.out, hL, F.out, P.out, O.out, hend.out⟩
          · by_cases hlt : k < n
            · have e0 : ((k : Int) == 0) = false := by rw [beq_eq_false_iff_ne]; omega
              have e1 : (atW ws k == [97, 110, 100]) = false := beq_eq_false_iff_ne.2 hand
              clear hand h0
              replace q1 := hide q1
              go_wp2_with fail
              (with_reducible refine q1.out.mono ?_)
              rintro e w_ ⟨rfl, rfl⟩
              clear q1
              generalize atW ws k = y at *
              go_wp2_with fail
              go_meet
              case rel => exact ⟨k, L, a1, c1, rfl, hk5.out, hL, F.out, P.out, O.out, hend.out⟩
            · clear q1 hand h0
              go_wp2_with fail
              go_meet
              case rel => exact ⟨k, L, a1, c1, rfl, hk5.out, hL, F.out, P.out, O.out, hend.out⟩
    · have hr0 : ∀ t, tt = some t → t.conds = [] ∧ ws.drop 0 = thenW t := fun t h => (hst.out t h).2.2.2.2 hif
      have e1 : (atW ws 0 == [105, 102]) = false := beq_eq_false_iff_ne.2 hif
      clear hif
      rw [e1]
      clear e1
      replace hr0 := hide hr0
      go_wp2_with fail
      go_meet
      case rel => exact ⟨0, [], none, 0, rfl, by decide, Nat.le_refl _, F.out, P.out, Own.nil, hr0.out⟩
  case rest =>
    clear F P qc
    obtain ⟨k0, L, a1, c1, rfl, hk0, hL0, F, P, OL, hE⟩ := hcut
    have hra : ∀ t, tt = some t → t.conds = L ∧ (∀ a ∈ t.acts, actOk a = true) ∧ Ra ws t k0 true [] := fun t h => ⟨(hE t h).1, (hst.out t h).2.1, Ra.start (hE t h).2 (hst.out t h).2.2.1⟩
    have hLn : L.length ≤ 1048590 := by omega
    have htc := P.lt
    have hK0 := Kp.refl wc (tb + 1)
    clear hE hst hL0
    replace F := hide F
    replace P := hide P
    replace hra := hide hra
    replace OL := hide OL
    replace htc := hide htc
    replace hK0 := hide hK0
    go_wp2_with fail
    go_loopw [6, 9] (fun s6 s9 wx => ∃ (k : Nat) (b : Bool) (M : List ActS) (a2 : Option Addr) (c2 : Nat), s6 = .int .i64 (k : Int) ∧ s9 = .bool b ∧ k ≤ 1048600 ∧ M.length ≤ k ∧ Ext W1 wx ∧ Blk wx tb 25 #[.slice a1 L.length c1, .slice a2 M.length c2] ∧ Own EAct 51 wx wc.heap.size (.slice a2 M.length c2) M ∧ Kp wc wx (tb + 1) ∧ ∀ t, tt = some t → t.conds = L ∧ (∀ a ∈ t.acts, actOk a = true) ∧ Ra ws t k b M) (fun s6 _ _ => 2000000 - (intOf s6).toNat)
    case atStart => exact ⟨k0, true, [], none, 0, rfl, rfl, by omega, Nat.zero_le _, F.out, P.out, Own.nil, hK0.out, hra.out⟩
    case round =>
      clear F P
      obtain ⟨k, b, M, a2, c2, rfl, rfl, hk, hM, F, P, O, K, hI⟩ := hrel
      have q1 := qa.out k (by omega) wr F
      have q2 := fun W (e : Ext wr W) => qx.out k (by omega) W (F.trans e)
      by_cases hgo : k < n ∧ (b = true ∨ (b = false ∧ atW ws k = [97, 110, 100]))
      · obtain ⟨hlt, hgo⟩ := hgo
        have hstp : ∀ t, tt = some t → t.conds = L ∧ (∀ a ∈ t.acts, actOk a = true) ∧ ∃ c q, readA (ws.drop (k + 1)) = some (c, q) ∧ ∀ i, ws.drop i = q → Ra ws t i false (M ++ [c]) := fun t h => ⟨(hI t h).1, (hI t h).2.1, (hI t h).2.2.step (hI t h).2.1 hgo (by have := hnn.out; omega)⟩
        clear hI
        replace F := hide F
        replace P := hide P
        replace O := hide O
        replace K := hide K
        replace hstp := hide hstp
        replace q1 := hide q1
        replace q2 := hide q2
        rcases hgo with rfl | ⟨rfl, hand⟩
        · clear q1
          go_wp2_with fail
          (with_reducible refine (q2.out _ (Ext.refl _)).mono ?_)
          rintro e w4 ⟨cc, i, rfl, hci, hi1, hi2, hrd, he⟩
          have hI2 : ∀ t, tt = some t → t.conds = L ∧ (∀ a ∈ t.acts, actOk a = true) ∧ Ra ws t i false (M ++ [cc]) := fun t h => by
            obtain ⟨h7, h8, c', q, h1, h2⟩ := hstp.out t h
            obtain ⟨rfl, h3⟩ := hrd c' q h1
            exact ⟨h7, h8, h2 i h3⟩
          replace F := F.out.trans he
          replace P := P.out.ext he
          replace O := O.out.ext he
          have hcl1 : (M ++ [cc]).length = M.length + 1 := by simp
          have hLn2 : M.length ≤ 2000000 := by omega
          have hwz := K.out.size
          have hox := (O.alloc (Obj.cells (actCs cc).toArray 51)).alloc (Obj.cells (actCs cc).toArray 51)
          have F5 := (F.alloc (Obj.cells (actCs cc).toArray 51)).alloc (Obj.cells (actCs cc).toArray 51)
          have p1 : (w4.alloc (Obj.cells (actCs cc).toArray 51)).cell? ⟨tb, 1, none⟩ = some (.slice a2 M.length c2) := (P.alloc (Obj.cells (actCs cc).toArray 51)).cell 1
          have P5 := (P.alloc (Obj.cells (actCs cc).toArray 51)).alloc (Obj.cells (actCs cc).toArray 51)
          have K5 := ((K.out.but (g := 0) (But.of he) (by omega)).alloc (Obj.cells (actCs cc).toArray 51)).alloc (Obj.cells (actCs cc).toArray 51)
          have hW5 : wc.heap.size ≤ ((w4.alloc (Obj.cells (actCs cc).toArray 51)).alloc (Obj.cells (actCs cc).toArray 51)).heap.size := K5.size
          clear he hrd hstp q2 F P O K hwz
          have hcell := cells_new (w4.alloc (Obj.cells (actCs cc).toArray 51)) (actCs cc).toArray 51
          rw [show (w4.alloc (Obj.cells (actCs cc).toArray 51)).heap.size = w4.heap.size + 1 by simp] at hcell
          have hER : EAct.R ((w4.alloc (Obj.cells (actCs cc).toArray 51)).alloc (Obj.cells (actCs cc).toArray 51)) (fun b => wc.heap.size ≤ b ∧ b < ((w4.alloc (Obj.cells (actCs cc).toArray 51)).alloc (Obj.cells (actCs cc).toArray 51)).heap.size ∧ some b ≠ (Value.slice a2 M.length c2).ownBlock) cc (actCs cc) := ⟨rfl, hci⟩
          obtain ⟨y0, y1, y2, y3⟩ := cc
          have hxs : (actCs ⟨y0, y1, y2, y3⟩).toArray = #[.int .i64 y0, .string ⟨y1.toArray⟩, .int .u32 (y2.toNat : Int), .string ⟨y3.toArray⟩] := rfl
          have hxl : actCs ⟨y0, y1, y2, y3⟩ = [.int .i64 y0, .string ⟨y1.toArray⟩, .int .u32 (y2.toNat : Int), .string ⟨y3.toArray⟩] := rfl
          rw [hxs] at hox F5 P5 p1 K5 hW5 hcell hER ⊢
          rw [hxl] at hER
          replace hcell : ∀ (j : Nat) (u : Value), ([.int .i64 y0, .string ⟨y1.toArray⟩, .int .u32 (y2.toNat : Int), .string ⟨y3.toArray⟩] : List Value)[j]? = some u → _ := hcell
          replace F5 := hide F5
          replace hox := hide hox
          replace P5 := hide P5
          replace K5 := hide K5
          replace hI2 := hide hI2
          replace hci := hide hci
          replace hER := hide hER
          replace hcell := hide hcell
          replace hW5 := hide hW5
          replace hcl1 := hide hcl1
          clear hxs hxl
          go_wp2_with (
            at_builtin
            go_must (refine wpList_push (E := EAct) rfl _ _ _ rfl okAct (by decide) (by decide) rfl hox.out (by omega) hW5.out rfl hER.out hcell.out ?_)
            intro v' w5 hown1 hg5 hat5
            obtain ⟨va5, vc5, rfl⟩ := hown1.form
            rw [hcl1.out] at hown1 ⊢
            have hvb : ∀ k, (Value.slice a2 M.length c2).ownBlock = some k → wc.heap.size ≤ k := fun k hk => (hox.out.lt k hk).1
            have hab : some tb ≠ (Value.slice a2 M.length c2).ownBlock := fun h => by have := hvb tb h.symm; have := htc.out; omega
            have P6 := P5.out.grown hg5 hab
            have F6 := F5.out.push (fun k hk => by have := hvb k hk; have := htc.out; have := hgz.out; omega) hg5
            have K6 := K5.out.grown hg5 hvb
            have P7 : Blk (w5.setCell ⟨tb, 1, none⟩ (.slice va5 (M.length + 1) vc5)) tb 25 #[.slice a1 L.length c1, .slice va5 (M.length + 1) vc5] := P6.set_ 1 (.slice va5 (M.length + 1) vc5)
            have O7 := hown1.asideS (p := ⟨tb, 1, none⟩) htc.out (.slice va5 (M.length + 1) vc5)
            have F7 := F6.setCell (p := ⟨tb, 1, none⟩) hgz.out (.slice va5 (M.length + 1) vc5)
            have K7 := K6.set (p := tb) (by omega) 1 (.slice va5 (M.length + 1) vc5)
            clear p1
            have p0 : w5.cell? ⟨tb, 1, none⟩ = some (.slice a2 M.length c2) := P6.cell 1
            have pf := fun i => P6.frozen i
            clear P6 F6 K6 hown1 hab hvb hg5 hat5 hox P5 F5 K5 hW5 hER hcell
            replace P7 := hide P7
            replace O7 := hide O7
            replace F7 := hide F7
            replace K7 := hide K7
            skip)
          clear p0 pf
          generalize w5.setCell ⟨tb, 1, none⟩ (.slice va5 (M.length + 1) vc5) = W6 at P7 O7 F7 K7 ⊢
          go_roundw
          case rel => first | exact ⟨i, false, M ++ [⟨y0, y1, y2, y3⟩], va5, vc5, rfl, rfl, by have := hn.out; omega, by rw [hcl1.out]; omega, F7.out, by rw [hcl1.out]; exact P7.out, by rw [hcl1.out]; exact O7.out, K7.out, hI2.out⟩ | ((repeat apply Exists.intro); exact ⟨⟨i, false, M ++ [⟨y0, y1, y2, y3⟩], va5, vc5, rfl, rfl, by have := hn.out; omega, by rw [hcl1.out]; omega, F7.out, by rw [hcl1.out]; exact P7.out, by rw [hcl1.out]; exact O7.out, K7.out, hI2.out⟩, rfl⟩)
          case measure => have := hn.out; simp [intOf]; omega
        · rw [hand] at q1
          clear hand
          go_wp2_with fail
          (with_reducible refine q1.out.mono ?_)
          rintro e w_ ⟨rfl, rfl⟩
          clear q1
          go_wp2_with fail
          (with_reducible refine (q2.out _ (Ext.refl _)).mono ?_)
          rintro e w4 ⟨cc, i, rfl, hci, hi1, hi2, hrd, he⟩
          have hI2 : ∀ t, tt = some t → t.conds = L ∧ (∀ a ∈ t.acts, actOk a = true) ∧ Ra ws t i false (M ++ [cc]) := fun t h => by
            obtain ⟨h7, h8, c', q, h1, h2⟩ := hstp.out t h
            obtain ⟨rfl, h3⟩ := hrd c' q h1
            exact ⟨h7, h8, h2 i h3⟩
          replace F := F.out.trans he
          replace P := P.out.ext he
          replace O := O.out.ext he
          have hcl1 : (M ++ [cc]).length = M.length + 1 := by simp
          have hLn2 : M.length ≤ 2000000 := by omega
          have hwz := K.out.size
          have hox := (O.alloc (Obj.cells (actCs cc).toArray 51)).alloc (Obj.cells (actCs cc).toArray 51)
          have F5 := (F.alloc (Obj.cells (actCs cc).toArray 51)).alloc (Obj.cells (actCs cc).toArray 51)
          have p1 : (w4.alloc (Obj.cells (actCs cc).toArray 51)).cell? ⟨tb, 1, none⟩ = some (.slice a2 M.length c2) := (P.alloc (Obj.cells (actCs cc).toArray 51)).cell 1
          have P5 := (P.alloc (Obj.cells (actCs cc).toArray 51)).alloc (Obj.cells (actCs cc).toArray 51)
          have K5 := ((K.out.but (g := 0) (But.of he) (by omega)).alloc (Obj.cells (actCs cc).toArray 51)).alloc (Obj.cells (actCs cc).toArray 51)
          have hW5 : wc.heap.size ≤ ((w4.alloc (Obj.cells (actCs cc).toArray 51)).alloc (Obj.cells (actCs cc).toArray 51)).heap.size := K5.size
          clear he hrd hstp q2 F P O K hwz
          have hcell := cells_new (w4.alloc (Obj.cells (actCs cc).toArray 51)) (actCs cc).toArray 51
          rw [show (w4.alloc (Obj.cells (actCs cc).toArray 51)).heap.size = w4.heap.size + 1 by simp] at hcell
          have hER : EAct.R ((w4.alloc (Obj.cells (actCs cc).toArray 51)).alloc (Obj.cells (actCs cc).toArray 51)) (fun b => wc.heap.size ≤ b ∧ b < ((w4.alloc (Obj.cells (actCs cc).toArray 51)).alloc (Obj.cells (actCs cc).toArray 51)).heap.size ∧ some b ≠ (Value.slice a2 M.length c2).ownBlock) cc (actCs cc) := ⟨rfl, hci⟩
          obtain ⟨y0, y1, y2, y3⟩ := cc
          have hxs : (actCs ⟨y0, y1, y2, y3⟩).toArray = #[.int .i64 y0, .string ⟨y1.toArray⟩, .int .u32 (y2.toNat : Int), .string ⟨y3.toArray⟩] := rfl
          have hxl : actCs ⟨y0, y1, y2, y3⟩ = [.int .i64 y0, .string ⟨y1.toArray⟩, .int .u32 (y2.toNat : Int), .string ⟨y3.toArray⟩] := rfl
          rw [hxs] at hox F5 P5 p1 K5 hW5 hcell hER ⊢
          rw [hxl] at hER
          replace hcell : ∀ (j : Nat) (u : Value), ([.int .i64 y0, .string ⟨y1.toArray⟩, .int .u32 (y2.toNat : Int), .string ⟨y3.toArray⟩] : List Value)[j]? = some u → _ := hcell
          replace F5 := hide F5
          replace hox := hide hox
          replace P5 := hide P5
          replace K5 := hide K5
          replace hI2 := hide hI2
          replace hci := hide hci
          replace hER := hide hER
          replace hcell := hide hcell
          replace hW5 := hide hW5
          replace hcl1 := hide hcl1
          clear hxs hxl
          go_wp2_with (
            at_builtin
            go_must (refine wpList_push (E := EAct) rfl _ _ _ rfl okAct (by decide) (by decide) rfl hox.out (by omega) hW5.out rfl hER.out hcell.out ?_)
            intro v' w5 hown1 hg5 hat5
            obtain ⟨va5, vc5, rfl⟩ := hown1.form
            rw [hcl1.out] at hown1 ⊢
            have hvb : ∀ k, (Value.slice a2 M.length c2).ownBlock = some k → wc.heap.size ≤ k := fun k hk => (hox.out.lt k hk).1
            have hab : some tb ≠ (Value.slice a2 M.length c2).ownBlock := fun h => by have := hvb tb h.symm; have := htc.out; omega
            have P6 := P5.out.grown hg5 hab
            have F6 := F5.out.push (fun k hk => by have := hvb k hk; have := htc.out; have := hgz.out; omega) hg5
            have K6 := K5.out.grown hg5 hvb
            have P7 : Blk (w5.setCell ⟨tb, 1, none⟩ (.slice va5 (M.length + 1) vc5)) tb 25 #[.slice a1 L.length c1, .slice va5 (M.length + 1) vc5] := P6.set_ 1 (.slice va5 (M.length + 1) vc5)
            have O7 := hown1.asideS (p := ⟨tb, 1, none⟩) htc.out (.slice va5 (M.length + 1) vc5)
            have F7 := F6.setCell (p := ⟨tb, 1, none⟩) hgz.out (.slice va5 (M.length + 1) vc5)
            have K7 := K6.set (p := tb) (by omega) 1 (.slice va5 (M.length + 1) vc5)
            clear p1
            have p0 : w5.cell? ⟨tb, 1, none⟩ = some (.slice a2 M.length c2) := P6.cell 1
            have pf := fun i => P6.frozen i
            clear P6 F6 K6 hown1 hab hvb hg5 hat5 hox P5 F5 K5 hW5 hER hcell
            replace P7 := hide P7
            replace O7 := hide O7
            replace F7 := hide F7
            replace K7 := hide K7
            skip)
          clear p0 pf
          generalize w5.setCell ⟨tb, 1, none⟩ (.slice va5 (M.length + 1) vc5) = W6 at P7 O7 F7 K7 ⊢
          go_roundw
          case rel => first | exact ⟨i, false, M ++ [⟨y0, y1, y2, y3⟩], va5, vc5, rfl, rfl, by have := hn.out; omega, by rw [hcl1.out]; omega, F7.out, by rw [hcl1.out]; exact P7.out, by rw [hcl1.out]; exact O7.out, K7.out, hI2.out⟩ | ((repeat apply Exists.intro); exact ⟨⟨i, false, M ++ [⟨y0, y1, y2, y3⟩], va5, vc5, rfl, rfl, by have := hn.out; omega, by rw [hcl1.out]; omega, F7.out, by rw [hcl1.out]; exact P7.out, by rw [hcl1.out]; exact O7.out, K7.out, hI2.out⟩, rfl⟩)
          case measure => have := hn.out; simp [intOf]; omega
      · have hnot : ¬ k < n ∨ (k < n ∧ b = false ∧ atW ws k ≠ [97, 110, 100]) := by
          by_cases h1 : k < n
          · refine .inr ⟨h1, ?_, fun h2 => ?_⟩
            · cases b with
              | false => rfl
              | true => exact absurd ⟨h1, .inl rfl⟩ hgo
            · cases b with
              | false => exact hgo ⟨h1, .inr ⟨rfl, h2⟩⟩
              | true => exact hgo ⟨h1, .inl rfl⟩
          · exact .inl h1
        have hend : ∀ t, tt = some t → t = ⟨L, M⟩ := fun t h => by
          obtain ⟨h1, _, h2⟩ := hI t h
          have h3 := h2.done (by have := hnn.out; rcases hnot with h | ⟨_, h⟩; exact .inl (by omega); exact .inr h)
          obtain ⟨x, y⟩ := t
          dsimp only at h1 h3
          rw [h1, h3]
        have OL2 := OL.out.kept K.size K.block
        have q3 := DTermText_any a1 c1 a2 c2 ⟨L, M⟩ wr (by show L.length ≤ _; omega) (by show M.length ≤ _; omega) ((own_sl OL2).mono fun b hb => hb.2) ((own_sl O).mono fun b hb => hb.2) (hT.out.ext (E.out.trans F)) (hD.out.ext (E.out.trans F))
        have hto1 := hto.out ⟨L, M⟩
        clear hgo hI q2 qx hra hK0 K hto
        have hgw2 : w.heap.size ≤ tb + 1 := by have := hgw.out; have := hgb.out; omega
        have hgw3 : w.heap.size ≤ wc.heap.size := by have := htc.out; omega
        dsimp only at q3
        have m0 : wr.cell? ⟨tb, 0, none⟩ = some (.slice a1 L.length c1) := P.cell 0
        have m1 : wr.cell? ⟨tb, 1, none⟩ = some (.slice a2 M.length c2) := P.cell 1
        generalize hu : (⟨L, M⟩ : TermS) = u at *
        by_cases hx : termT u = (s, 0)
        · have htt := hto1 hx
          rw [hx] at q3
          have hfin := fun W v1 v2 o1 o2 he => hok.out u W v1 v2 htt o1 o2 he
          rw [← hu] at hfin
          dsimp only at hfin
          clear hto1 hend hsome hno hok hx htt hu
          replace q3 := hide q3
          replace hfin := hide hfin
          replace F := hide F
          replace P := hide P
          replace O := hide O
          replace OL2 := hide OL2
          replace hgw2 := hide hgw2
          replace hgw3 := hide hgw3
          rcases hnot with hnot | ⟨hlt, rfl, hand⟩
          · clear q1
            go_wp2_with fail
            (with_reducible refine q3.out.mono ?_)
            rintro e w7 ⟨rfl, he⟩
            have P8 := P.out.ext he
            have R8 := (R.out.ext F.out).ext he
            have E8 := (E.out.trans F.out).trans he
            have O8 := O.out.ext he
            have OL8 := OL2.out.ext he
            have p0 : w7.cell? ⟨tb, 0, none⟩ = some (.slice a1 L.length c1) := P8.cell 0
            have p1 : w7.cell? ⟨tb, 1, none⟩ = some (.slice a2 M.length c2) := P8.cell 1
            have r0 : w7.cell? ⟨rb, 0, none⟩ = some (.slice none 0 0) := R8.cell 0
            have r1 : w7.cell? ⟨rb, 1, none⟩ = some (.slice none 0 0) := R8.cell 1
            have rf := fun i => R8.frozen i
            clear P8 he q3 m0 m1
            have Z := (R8.set_ 0 (.slice a1 L.length c1)).set_ 1 (.slice a2 M.length c2)
            have EZ := (E8.setCell (p := ⟨rb, 0, none⟩) hgw.out (.slice a1 L.length c1)).setCell (p := ⟨rb, 1, none⟩) hgw.out (.slice a2 M.length c2)
            have hrl : rb < tb + 1 := by have := hgb.out; omega
            have hrc : rb < wc.heap.size := by have := hgb.out; have := htc.out; omega
            have O9 := ((O8.asideS (p := ⟨rb, 0, none⟩) hrc (.slice a1 L.length c1)).asideS (p := ⟨rb, 1, none⟩) hrc (.slice a2 M.length c2)).low hgw3.out
            have OL9 := ((OL8.asideS (p := ⟨rb, 0, none⟩) hrl (.slice a1 L.length c1)).asideS (p := ⟨rb, 1, none⟩) hrl (.slice a2 M.length c2)).low hgw2.out
            clear R8 E8 O8 OL8
            have z0 := Z.cell 0
            have z1 := Z.cell 1
            simp at z0 z1
            clear Z
            replace EZ := hide EZ
            replace O9 := hide O9
            replace OL9 := hide OL9
            go_wp2_with fail
            exact bodyPost_ret (v := .tuple #[.agg #[.slice a1 L.length c1, .slice a2 M.length c2], .bool true]) (by simp [results, Tryz.results22, go_sem, z0, z1]) rfl (hfin.out _ _ _ OL9.out O9.out EZ.out)
          · have e1 : (atW ws k == [97, 110, 100]) = false := beq_eq_false_iff_ne.2 hand
            clear hand
            replace q1 := hide q1
            go_wp2_with fail
            (with_reducible refine q1.out.mono ?_)
            rintro e w_ ⟨rfl, rfl⟩
            clear q1
            generalize atW ws k = y at *
            go_wp2_with fail
            (with_reducible refine q3.out.mono ?_)
            rintro e w7 ⟨rfl, he⟩
            have P8 := P.out.ext he
            have R8 := (R.out.ext F.out).ext he
            have E8 := (E.out.trans F.out).trans he
            have O8 := O.out.ext he
            have OL8 := OL2.out.ext he
            have p0 : w7.cell? ⟨tb, 0, none⟩ = some (.slice a1 L.length c1) := P8.cell 0
            have p1 : w7.cell? ⟨tb, 1, none⟩ = some (.slice a2 M.length c2) := P8.cell 1
            have r0 : w7.cell? ⟨rb, 0, none⟩ = some (.slice none 0 0) := R8.cell 0
            have r1 : w7.cell? ⟨rb, 1, none⟩ = some (.slice none 0 0) := R8.cell 1
            have rf := fun i => R8.frozen i
            clear P8 he q3 m0 m1
            have Z := (R8.set_ 0 (.slice a1 L.length c1)).set_ 1 (.slice a2 M.length c2)
            have EZ := (E8.setCell (p := ⟨rb, 0, none⟩) hgw.out (.slice a1 L.length c1)).setCell (p := ⟨rb, 1, none⟩) hgw.out (.slice a2 M.length c2)
            have hrl : rb < tb + 1 := by have := hgb.out; omega
            have hrc : rb < wc.heap.size := by have := hgb.out; have := htc.out; omega
            have O9 := ((O8.asideS (p := ⟨rb, 0, none⟩) hrc (.slice a1 L.length c1)).asideS (p := ⟨rb, 1, none⟩) hrc (.slice a2 M.length c2)).low hgw3.out
            have OL9 := ((OL8.asideS (p := ⟨rb, 0, none⟩) hrl (.slice a1 L.length c1)).asideS (p := ⟨rb, 1, none⟩) hrl (.slice a2 M.length c2)).low hgw2.out
            clear R8 E8 O8 OL8
            have z0 := Z.cell 0
            have z1 := Z.cell 1
            simp at z0 z1
            clear Z
            replace EZ := hide EZ
            replace O9 := hide O9
            replace OL9 := hide OL9
            go_wp2_with fail
            exact bodyPost_ret (v := .tuple #[.agg #[.slice a1 L.length c1, .slice a2 M.length c2], .bool true]) (by simp [results, Tryz.results22, go_sem, z0, z1]) rfl (hfin.out _ _ _ OL9.out O9.out EZ.out)
        · have htt : tt = none := by
            cases tt with
            | none => rfl
            | some t =>
              have h1 := hend t rfl
              have h2 := hsome.out t rfl
              rw [h1] at h2
              exact absurd h2 hx
          have hfin := fun W he => hno.out W htt he
          have hne2 : ¬ ((termT u).1 = s ∧ (termT u).2 = 0) := fun h => hx (Prod.ext h.1 h.2)
          clear hto1 hend hsome hno hok hx htt hu
          generalize (termT u).1 = tx at *
          generalize (termT u).2 = te at *
          have hcs : (te = 0 ∧ (tx == s) = false) ∨ ((te == 0) = false ∧ (te != 0) = true) := by
            by_cases h1 : te = 0
            · exact .inl ⟨h1, beq_eq_false_iff_ne.2 fun h2 => hne2 ⟨h2, h1⟩⟩
            · have h2 : (te == 0) = false := beq_eq_false_iff_ne.2 h1
              exact .inr ⟨h2, by simp [bne, h2]⟩
          clear hne2
          replace q3 := hide q3
          replace hfin := hide hfin
          replace F := hide F
          replace P := hide P
          replace O := hide O
          replace OL2 := hide OL2
          replace hgw2 := hide hgw2
          replace hgw3 := hide hgw3
          rcases hnot with hnot | ⟨hlt, rfl, hand⟩
          · clear q1
            rcases hcs with ⟨rfl, g1⟩ | ⟨g1, g2⟩
            · go_wp2_with fail
              (with_reducible refine q3.out.mono ?_)
              rintro e w7 ⟨rfl, he⟩
              have P8 := P.out.ext he
              have R8 := (R.out.ext F.out).ext he
              have E8 := (E.out.trans F.out).trans he
              have O8 := O.out.ext he
              have OL8 := OL2.out.ext he
              have p0 : w7.cell? ⟨tb, 0, none⟩ = some (.slice a1 L.length c1) := P8.cell 0
              have p1 : w7.cell? ⟨tb, 1, none⟩ = some (.slice a2 M.length c2) := P8.cell 1
              have r0 : w7.cell? ⟨rb, 0, none⟩ = some (.slice none 0 0) := R8.cell 0
              have r1 : w7.cell? ⟨rb, 1, none⟩ = some (.slice none 0 0) := R8.cell 1
              have rf := fun i => R8.frozen i
              clear P8 he q3 m0 m1
              have Z := (R8.set_ 0 (.slice none 0 0)).set_ 1 (.slice none 0 0)
              have EZ := (E8.setCell (p := ⟨rb, 0, none⟩) hgw.out (.slice none 0 0)).setCell (p := ⟨rb, 1, none⟩) hgw.out (.slice none 0 0)
              clear R8 E8 O8 OL8
              have z0 := Z.cell 0
              have z1 := Z.cell 1
              simp at z0 z1
              clear Z
              replace EZ := hide EZ
              go_wp2_with fail
              exact bodyPost_ret (v := .tuple #[.agg #[.slice none 0 0, .slice none 0 0], .bool false]) (by simp [results, Tryz.results22, go_sem, z0, z1]) rfl (hfin.out _ EZ.out)
            · go_wp2_with fail
              (with_reducible refine q3.out.mono ?_)
              rintro e w7 ⟨rfl, he⟩
              have P8 := P.out.ext he
              have R8 := (R.out.ext F.out).ext he
              have E8 := (E.out.trans F.out).trans he
              have O8 := O.out.ext he
              have OL8 := OL2.out.ext he
              have p0 : w7.cell? ⟨tb, 0, none⟩ = some (.slice a1 L.length c1) := P8.cell 0
              have p1 : w7.cell? ⟨tb, 1, none⟩ = some (.slice a2 M.length c2) := P8.cell 1
              have r0 : w7.cell? ⟨rb, 0, none⟩ = some (.slice none 0 0) := R8.cell 0
              have r1 : w7.cell? ⟨rb, 1, none⟩ = some (.slice none 0 0) := R8.cell 1
              have rf := fun i => R8.frozen i
              clear P8 he q3 m0 m1
              have Z := (R8.set_ 0 (.slice none 0 0)).set_ 1 (.slice none 0 0)
              have EZ := (E8.setCell (p := ⟨rb, 0, none⟩) hgw.out (.slice none 0 0)).setCell (p := ⟨rb, 1, none⟩) hgw.out (.slice none 0 0)
              clear R8 E8 O8 OL8
              have z0 := Z.cell 0
              have z1 := Z.cell 1
              simp at z0 z1
              clear Z
              replace EZ := hide EZ
              go_wp2_with fail
              exact bodyPost_ret (v := .tuple #[.agg #[.slice none 0 0, .slice none 0 0], .bool false]) (by simp [results, Tryz.results22, go_sem, z0, z1]) rfl (hfin.out _ EZ.out)
          · have e1 : (atW ws k == [97, 110, 100]) = false := beq_eq_false_iff_ne.2 hand
            clear hand
            replace q1 := hide q1
            go_wp2_with fail
            (with_reducible refine q1.out.mono ?_)
            rintro e w_ ⟨rfl, rfl⟩
            clear q1
            generalize atW ws k = y at *
            rcases hcs with ⟨rfl, g1⟩ | ⟨g1, g2⟩
            · go_wp2_with fail
              (with_reducible refine q3.out.mono ?_)
              rintro e w7 ⟨rfl, he⟩
              have P8 := P.out.ext he
              have R8 := (R.out.ext F.out).ext he
              have E8 := (E.out.trans F.out).trans he
              have O8 := O.out.ext he
              have OL8 := OL2.out.ext he
              have p0 : w7.cell? ⟨tb, 0, none⟩ = some (.slice a1 L.length c1) := P8.cell 0
              have p1 : w7.cell? ⟨tb, 1, none⟩ = some (.slice a2 M.length c2) := P8.cell 1
              have r0 : w7.cell? ⟨rb, 0, none⟩ = some (.slice none 0 0) := R8.cell 0
              have r1 : w7.cell? ⟨rb, 1, none⟩ = some (.slice none 0 0) := R8.cell 1
              have rf := fun i => R8.frozen i
              clear P8 he q3 m0 m1
              have Z := (R8.set_ 0 (.slice none 0 0)).set_ 1 (.slice none 0 0)
              have EZ := (E8.setCell (p := ⟨rb, 0, none⟩) hgw.out (.slice none 0 0)).setCell (p := ⟨rb, 1, none⟩) hgw.out (.slice none 0 0)
              clear R8 E8 O8 OL8
              have z0 := Z.cell 0
              have z1 := Z.cell 1
              simp at z0 z1
              clear Z
              replace EZ := hide EZ
              go_wp2_with fail
              exact bodyPost_ret (v := .tuple #[.agg #[.slice none 0 0, .slice none 0 0], .bool false]) (by simp [results, Tryz.results22, go_sem, z0, z1]) rfl (hfin.out _ EZ.out)
            · go_wp2_with fail
              (with_reducible refine q3.out.mono ?_)
              rintro e w7 ⟨rfl, he⟩
              have P8 := P.out.ext he
              have R8 := (R.out.ext F.out).ext he
              have E8 := (E.out.trans F.out).trans he
              have O8 := O.out.ext he
              have OL8 := OL2.out.ext he
              have p0 : w7.cell? ⟨tb, 0, none⟩ = some (.slice a1 L.length c1) := P8.cell 0
              have p1 : w7.cell? ⟨tb, 1, none⟩ = some (.slice a2 M.length c2) := P8.cell 1
              have r0 : w7.cell? ⟨rb, 0, none⟩ = some (.slice none 0 0) := R8.cell 0
              have r1 : w7.cell? ⟨rb, 1, none⟩ = some (.slice none 0 0) := R8.cell 1
              have rf := fun i => R8.frozen i
              clear P8 he q3 m0 m1
              have Z := (R8.set_ 0 (.slice none 0 0)).set_ 1 (.slice none 0 0)
              have EZ := (E8.setCell (p := ⟨rb, 0, none⟩) hgw.out (.slice none 0 0)).setCell (p := ⟨rb, 1, none⟩) hgw.out (.slice none 0 0)
              clear R8 E8 O8 OL8
              have z0 := Z.cell 0
              have z1 := Z.cell 1
              simp at z0 z1
              clear Z
              replace EZ := hide EZ
              go_wp2_with fail
              exact bodyPost_ret (v := .tuple #[.agg #[.slice none 0 0, .slice none 0 0], .bool false]) (by simp [results, Tryz.results22, go_sem, z0, z1]) rfl (hfin.out _ EZ.out)
end
section
open Go.RowKit
set_option linter.unusedVariables false

set_option maxRecDepth 20000 in
set_option maxHeartbeats 4000000 in
theorem wrong_yes (w : World) : Calls Tryz.prog 23 #[.nilIface, .bool true] w fun e w' => e = .returned (.bool true) ∧ Ext w w' := by
  go_enter Tryz.func23, Tryz.ntmps23
  go_wp2_with fail
  go_ret
  exact ⟨rfl, Ext.refl w⟩
set_option maxRecDepth 20000 in
set_option maxHeartbeats 4000000 in
theorem wrong_no (f : Nat) (w : World) (F : Blk w f 84 #[.int .i64 9, .int .i64 0]) (hg : ErT w) : Calls Tryz.prog 23 #[.iface 80 (.pointer (some ⟨f, 0, none⟩)), .bool false] w fun e w' => e = .returned (.bool true) ∧ Ext w w' := by
  have P := Blk.new w 80 #[.pointer none]
  have E := (Ext.refl w).alloc (Obj.cells #[.pointer none] 80)
  have F0 := F.alloc (Obj.cells #[.pointer none] 80)
  have q1 := asF_hit ⟨f, 0, none⟩ ⟨w.heap.size, 0, none⟩ (.pointer none) _ (hg.ext E) (P.cell 0) (P.frozen 0)
  have hfl := F.lt
  have q2 := fun W (h : W.cell? ⟨f, 0, none⟩ = some (.int .i64 9)) => isF_any ⟨f, 0, none⟩ 9 9 W h
  have q3 := fun W (h : W.cell? ⟨f, 0, none⟩ = some (.int .i64 9)) => isF_any ⟨f, 0, none⟩ 9 2 W h
  rw [show ((9 : Int) == 9) = true by decide] at q2
  rw [show ((9 : Int) == 2) = false by decide] at q3
  have hle : w.heap.size ≤ w.heap.size := Nat.le_refl _
  clear F
  generalize hW0 : w.alloc (Obj.cells #[.pointer none] 80) = W0 at P E F0 q1
  generalize htb : w.heap.size = tb at P q1 hfl hle
  replace hle : w.heap.size ≤ tb := by omega
  replace P := hide P
  replace E := hide E
  replace F0 := hide F0
  replace q1 := hide q1
  replace q2 := hide q2
  replace q3 := hide q3
  replace hfl := hide hfl
  replace hle := hide hle
  go_enter Tryz.func23, Tryz.ntmps23
  go_wp2_with fail
  (with_reducible refine q1.out.mono ?_)
  rintro e W1 ⟨rfl, W1', he, rfl⟩
  clear q1 hW0 htb
  have P1 : Blk (W1'.setCell ⟨tb, 0, none⟩ (.pointer (some ⟨f, 0, none⟩))) tb 80 #[.pointer (some ⟨f, 0, none⟩)] := (P.out.ext he).set_ 0 _
  have F1 := (F0.out.ext he).far (p := ⟨tb, 0, none⟩) (show f ≠ tb by have := hfl.out; omega) (.pointer (some ⟨f, 0, none⟩))
  have E1 := (E.out.trans he).setCell (p := ⟨tb, 0, none⟩) hle.out (.pointer (some ⟨f, 0, none⟩))
  generalize W1'.setCell ⟨tb, 0, none⟩ (.pointer (some ⟨f, 0, none⟩)) = W2 at P1 F1 E1 ⊢
  have p0 : W2.cell? ⟨tb, 0, none⟩ = some (.pointer (some ⟨f, 0, none⟩)) := P1.cell 0
  have f0 : W2.cell? ⟨f, 0, none⟩ = some (.int .i64 9) := F1.cell 0
  have f1 : W2.cell? ⟨f, 1, none⟩ = some (.int .i64 0) := F1.cell 1
  have q2' := q2.out W2 f0
  have q3' := q3.out W2 f0
  clear P1 F1 he P F0 E q2 q3 hfl
  replace E1 := hide E1
  replace q2' := hide q2'
  replace q3' := hide q3'
  go_wp2_with fail
  (with_reducible refine q2'.out.mono ?_)
  rintro e w_ ⟨rfl, rfl⟩
  clear q2'
  go_wp2_with fail
  (with_reducible refine q3'.out.mono ?_)
  rintro e w_ ⟨rfl, rfl⟩
  clear q3'
  go_wp2_with fail
  go_ret
  exact ⟨rfl, E1.out⟩
/-- Only cells of blocks from B up to H have turned. -/
structure Sq (B H : Nat) (w w' : World) : Prop where
  os : w'.os = w.os
  tape : w'.tape = w.tape
  output : w'.output = w.output
  size : w'.heap.size = w.heap.size
  block : ∀ b, (b < B ∨ H ≤ b) → w'.heap[b]? = w.heap[b]?
  there : ∀ b o n, w.there b o n → w'.there b o n
theorem Sq.refl (B H : Nat) (w : World) : Sq B H w w := ⟨rfl, rfl, rfl, rfl, fun _ _ => rfl, fun _ _ _ h => h⟩
theorem Sq.set {B H : Nat} {w w' : World} (h : Sq B H w w') {b : Nat} (h1 : B ≤ b) (h2 : b < H) (o : Nat) (u : Value) : Sq B H w (w'.setCell ⟨b, o, none⟩ u) :=
  ⟨h.os, h.tape, h.output, by simpa [World.setCell] using h.size, fun k hk => (Below.heap_setCell _ _ _ _ (show k ≠ b by omega)).trans (h.block k hk), fun b' o' n hh => World.there_setCells (h.there b' o' n hh) b o [u]⟩
theorem Sq.cell {B H : Nat} {w w' : World} (h : Sq B H w w') {b : Nat} (hb : b < B ∨ H ≤ b) (o : Nat) {u : Value} (hc : w.cell? ⟨b, o, none⟩ = some u) : w'.cell? ⟨b, o, none⟩ = some u :=
  (World.cell?_of_block (a := ⟨b, o, none⟩) (h.block b hb)).trans hc
theorem Sq.blk {B H : Nat} {w w' : World} (h : Sq B H w w') {b : Nat} {t : TypeId} {cs : Array Value} (hb : b < B ∨ H ≤ b) (hc : Blk w b t cs) : Blk w' b t cs := (h.block b hb).trans hc
theorem Sq.own {α : Type} {E : Enc α} {e : TypeId} {B H : Nat} {w w' : World} (h : Sq B H w w') {B' : Nat} (hB : H ≤ B') {v : Value} {l : List α} (ho : Own E e w B' v l) : Own E e w' B' v l :=
  ho.kept (Nat.le_of_eq h.size.symm) fun b hb _ => h.block b (.inr (by omega))
theorem Sq.ext {B H : Nat} {a w w' : World} (h : Sq B H w w') (hE : Ext a w) (hB : a.heap.size ≤ B) : Ext a w' :=
  ⟨h.os.trans hE.os, h.tape.trans hE.tape, h.output.trans hE.output, by rw [h.size]; exact hE.size, fun b hb => (h.block b (.inl (by omega))).trans (hE.block b hb)⟩
theorem own_there {α : Type} {E : Enc α} {e : TypeId} {w : World} {B g n c : Nat} {l : List α} (h : Own E e w B (.slice (some ⟨g, 0, none⟩) n c) l) : w.there g 0 (l.length * E.sz) := by
  obtain ⟨xs, ho, _⟩ := h
  have hn : n = l.length := by
    rcases ho.2 with ⟨h2, _⟩ | ⟨g', cap, cur, h2, _⟩
    · cases h2
    · injection h2
  subst hn
  intro j hj
  have hx : j < xs.length := by rw [ho.1]; exact hj
  have h3 := ho.cells (g := g) rfl j _ (List.getElem?_eq_getElem hx)
  have hadd : (⟨g, 0, none⟩ : Addr).add j = ⟨g, j, none⟩ := by unfold Addr.add; split <;> simp_all
  rw [hadd] at h3
  exact ⟨by rw [Nat.zero_add, h3]; rfl, by have := ho.frozenAt j; rw [Nat.zero_add]; exact this⟩
end
section
open Go.RowKit
set_option linter.unusedVariables false

theorem TeP.all {s : List UInt8} {w w' : World} {e : Ending} (h : TeP s w e w') : (match termO s with
    | some t => ∃ b1 d1 b2 d2, e = .returned (.tuple #[.agg #[.slice b1 t.conds.length d1, .slice b2 t.acts.length d2], .nilIface]) ∧ Own ECond 48 w' w.heap.size (.slice b1 t.conds.length d1) t.conds ∧ Own EAct 51 w' w.heap.size (.slice b2 t.acts.length d2) t.acts
    | none => ∃ f : Nat, e = .returned (.tuple #[.agg #[.slice none 0 0, .slice none 0 0], .iface 80 (.pointer (some ⟨f, 0, none⟩))]) ∧ Blk w' f 84 #[.int .i64 9, .int .i64 0]) ∧ Ext w w' := by
  obtain ⟨h1, h2⟩ := h
  refine ⟨?_, h2⟩
  cases ho : termO s with
  | none =>
    rw [ho] at h1
    obtain ⟨f, h3, _, h4⟩ := h1
    exact ⟨f, h3, h4⟩
  | some t =>
    rw [ho] at h1
    obtain ⟨v1, v2, h3, o1, o2⟩ := h1
    obtain ⟨b1, d1, rfl⟩ := o1.form
    obtain ⟨b2, d2, rfl⟩ := o2.form
    exact ⟨b1, d1, b2, d2, h3, o1, o2⟩
theorem TdP.all {s : List UInt8} {w w' : World} {e : Ending} (h : TdP s w e w') : (match termO s with
    | some t => ∃ b1 d1 b2 d2, e = .returned (.tuple #[.agg #[.slice b1 t.conds.length d1, .slice b2 t.acts.length d2], .bool true]) ∧ Own ECond 48 w' w.heap.size (.slice b1 t.conds.length d1) t.conds ∧ Own EAct 51 w' w.heap.size (.slice b2 t.acts.length d2) t.acts
    | none => e = .returned (.tuple #[.agg #[.slice none 0 0, .slice none 0 0], .bool false])) ∧ Ext w w' := by
  obtain ⟨h1, h2⟩ := h
  refine ⟨?_, h2⟩
  cases ho : termO s with
  | none => rw [ho] at h1; exact h1
  | some t =>
    rw [ho] at h1
    obtain ⟨v1, v2, h3, o1, o2⟩ := h1
    obtain ⟨b1, d1, rfl⟩ := o1.form
    obtain ⟨b2, d2, rfl⟩ := o2.form
    exact ⟨b1, d1, b2, d2, h3, o1, o2⟩
theorem own_ne {α : Type} {E : Enc α} {e : TypeId} {w : World} {B n c : Nat} {a : Option Addr} {l : List α} (h : Own E e w B (.slice a n c) l) (hl : l ≠ []) : ∃ g, a = some ⟨g, 0, none⟩ := by
  obtain ⟨xs, h1, _⟩ := h
  rcases h1.2 with ⟨h2, h0⟩ | ⟨g, cap, cur, h2, _⟩
  · exact absurd (List.eq_nil_of_length_eq_zero h0) hl
  · injection h2 with h2
    exact ⟨g, h2⟩
theorem ne_nil_lt {α : Type} {l : List α} {k : Nat} (h : k < l.length) : l ≠ [] := by rintro rfl; simp at h
set_option maxRecDepth 20000 in
set_option maxHeartbeats 8000000 in
theorem PolcReads_walk (s : List UInt8) (w : World) (hs : s.length ≤ 1048576) (hT : Tab w) (hD : Deb w) (hV : Vars w) (hg : ErT w) :
    Calls Tryz.prog 7 #[.string ⟨s.toArray⟩] w fun e w' => e = .returned (.bool true) ∧ Ext w w' := by
  have qw := fun W (h : Ext w W) => PWorks_any W (hT.ext h) (hD.ext h) (hV.ext h)
  have qp := fun W (h : Ext w W) => (PTerm_any s hs W (hT.ext h) (hV.ext h) (hD.ext h)).mono fun e w' h => TeP.all h
  have qd := fun W (h : Ext w W) => (DTerm_any s hs W (hT.ext h) (hD.ext h)).mono fun e w' h => TdP.all h
  have qe := fun f W F (h : Ext w W) => wrong_no f W F (hg.ext h)
  have qy := wrong_yes
  clear hT hD hV hg
  cases ho : termO s with
  | none =>
    rw [ho] at qp qd
    have qs := fun W => DSameTerm_any none 0 none 0 ⟨[], []⟩ none 0 none 0 ⟨[], []⟩ W (by decide) (by decide) (by decide) (by decide) Sl.nil Sl.nil Sl.nil Sl.nil
    rw [decide_eq_true rfl] at qs
    dsimp only [List.length_nil] at qs
    clear ho hs
    replace qw := hide qw
    replace qp := hide qp
    replace qd := hide qd
    replace qe := hide qe
    replace qy := hide qy
    replace qs := hide qs
    go_enter Tryz.func7, Tryz.ntmps7
    go_wp2_with fail
    (with_reducible refine (qp.out _ (Ext.refl _)).mono ?_)
    rintro e w1 ⟨⟨f1, rfl, F⟩, E⟩
    have hag := E.size
    replace F := hide F
    replace E := hide E
    replace hag := hide hag
    go_wp2_with fail
    have A := Blk.new w1 25 #[.slice none 0 0, .slice none 0 0]
    replace F := F.out.alloc (Obj.cells #[.slice none 0 0, .slice none 0 0] 25)
    replace E := E.out.alloc (Obj.cells #[.slice none 0 0, .slice none 0 0] 25)
    generalize w1.alloc (Obj.cells #[.slice none 0 0, .slice none 0 0] 25) = W1 at A F E ⊢
    generalize w1.heap.size = ga at A hag ⊢
    replace F := hide F
    replace E := hide E
    replace A := hide A
    (with_reducible refine (qd.out _ E.out).mono ?_)
    rintro e w2 ⟨rfl, he⟩
    have he2 := he.alloc (Obj.cells #[.slice none 0 0, .slice none 0 0] 25)
    have hAB : ga < w2.heap.size := Nat.lt_of_lt_of_le A.out.lt he.size
    replace he2 := hide he2
    replace hAB := hide hAB
    clear he
    go_upto_region 3 with fail
    replace A := A.out.ext he2.out
    have B := Blk.new w2 25 #[.slice none 0 0, .slice none 0 0]
    replace F := F.out.ext he2.out
    replace E := E.out.trans he2.out
    clear he2
    generalize w2.alloc (Obj.cells #[.slice none 0 0, .slice none 0 0] 25) = W2 at A B F E ⊢
    generalize w2.heap.size = gb at B hAB ⊢
    replace A := hide A
    replace B := hide B
    replace F := hide F
    replace E := hide E
    have A_0 : W2.cell? ⟨ga, 0, none⟩ = some (.slice none 0 0) := A.out.cell 0
    have A_1 : W2.cell? ⟨ga, 1, none⟩ = some (.slice none 0 0) := A.out.cell 1
    have B_0 : W2.cell? ⟨gb, 0, none⟩ = some (.slice none 0 0) := B.out.cell 0
    have B_1 : W2.cell? ⟨gb, 1, none⟩ = some (.slice none 0 0) := B.out.cell 1
    go_wp2_with fail
    (with_reducible refine (qs.out _).mono ?_)
    rintro e W3 ⟨rfl, he⟩
    clear A_0 A_1 B_0 B_1
    replace A := hide (A.out.ext he)
    replace B := hide (B.out.ext he)
    replace F := hide (F.out.ext he)
    replace E := hide (E.out.trans he)
    clear he
    go_wp2_with fail
    (with_reducible refine (qe.out f1 _ F.out E.out).mono ?_)
    rintro e W4 ⟨rfl, he⟩
    replace A := hide (A.out.ext he)
    replace B := hide (B.out.ext he)
    replace E := hide (E.out.trans he)
    clear he F
    have A_0 : W4.cell? ⟨ga, 0, none⟩ = some (.slice none 0 0) := A.out.cell 0
    have A_1 : W4.cell? ⟨ga, 1, none⟩ = some (.slice none 0 0) := A.out.cell 1
    have B_0 : W4.cell? ⟨gb, 0, none⟩ = some (.slice none 0 0) := B.out.cell 0
    have B_1 : W4.cell? ⟨gb, 1, none⟩ = some (.slice none 0 0) := B.out.cell 1
    go_wp2_with fail
    refine wp_loop_rounds 1 ?_
    rw [rounds_succ]
    go_wp2_with fail
    refine wp_loop_rounds 1 ?_
    rw [rounds_succ]
    go_wp2_with fail
    (with_reducible refine (qp.out _ E.out).mono ?_)
    rintro e W5 ⟨⟨f2, rfl, F⟩, he⟩
    clear A_0 A_1 B_0 B_1
    replace A := hide (A.out.ext he)
    replace B := hide (B.out.ext he)
    replace E := hide (E.out.trans he)
    have hfa : f2 ≠ ga := fun h => by
      have h1 := A.out
      subst h
      have h2 : (some (Obj.cells #[.int .i64 9, .int .i64 0] 84 (0, 0))) = some (Obj.cells #[.slice none 0 0, .slice none 0 0] 25 (0, 0)) := F.symm.trans h1
      injection h2 with h2
      injection h2 with h2
      injection h2 with h2
      injection h2 with h2
      cases h2
    clear he
    replace F := hide F
    have A_0 : W5.cell? ⟨ga, 0, none⟩ = some (.slice none 0 0) := A.out.cell 0
    have A_1 : W5.cell? ⟨ga, 1, none⟩ = some (.slice none 0 0) := A.out.cell 1
    have B_0 : W5.cell? ⟨gb, 0, none⟩ = some (.slice none 0 0) := B.out.cell 0
    have B_1 : W5.cell? ⟨gb, 1, none⟩ = some (.slice none 0 0) := B.out.cell 1
    have A_f := fun i => A.out.frozen i
    go_upto_region 14 with fail
    clear A_0 A_1 B_0 B_1
    clear A_f
    have A2 := (A.out.set_ 0 (.slice none 0 0)).set_ 1 (.slice none 0 0)
    have B2 := (B.out.far (p := ⟨ga, 0, none⟩) (show gb ≠ ga by have := hAB.out; omega) (.slice none 0 0)).far (p := ⟨ga, 1, none⟩) (show gb ≠ ga by have := hAB.out; omega) (.slice none 0 0)
    have F2 := (F.out.far (p := ⟨ga, 0, none⟩) hfa (.slice none 0 0)).far (p := ⟨ga, 1, none⟩) hfa (.slice none 0 0)
    have E2 := (E.out.setCell (p := ⟨ga, 0, none⟩) hag.out (.slice none 0 0)).setCell (p := ⟨ga, 1, none⟩) hag.out (.slice none 0 0)
    clear A B F E
    generalize (W5.setCell ⟨ga, 0, none⟩ (.slice none 0 0)).setCell ⟨ga, 1, none⟩ (.slice none 0 0) = W6 at A2 B2 F2 E2 ⊢
    have a0 : W6.cell? ⟨ga, 0, none⟩ = some (.slice none 0 0) := A2.cell 0
    have a1 : W6.cell? ⟨ga, 1, none⟩ = some (.slice none 0 0) := A2.cell 1
    have b0 : W6.cell? ⟨gb, 0, none⟩ = some (.slice none 0 0) := B2.cell 0
    have b1 : W6.cell? ⟨gb, 1, none⟩ = some (.slice none 0 0) := B2.cell 1
    clear A2 B2
    replace F2 := hide F2
    replace E2 := hide E2
    go_wp2_with fail
    (with_reducible refine (qs.out _).mono ?_)
    rintro e W7 ⟨rfl, he⟩
    clear a0 a1 b0 b1
    replace F2 := hide (F2.out.ext he)
    replace E2 := hide (E2.out.trans he)
    clear he
    go_wp2_with fail
    (with_reducible refine (qe.out f2 _ F2.out E2.out).mono ?_)
    rintro e W8 ⟨rfl, he⟩
    replace E2 := hide (E2.out.trans he)
    clear he
    go_wp2_with fail
    (with_reducible refine (qw.out _ E2.out).mono ?_)
    rintro e W9 ⟨rfl, he⟩
    replace E2 := hide (E2.out.trans he)
    clear he
    go_wp2_with fail
    go_ret
    exact ⟨rfl, E2.out⟩
  | some t =>
    rw [ho] at qp qd
    obtain ⟨hok, htx⟩ := termO_ok ho
    obtain ⟨k1, k2⟩ := termOk_len hok
    have l1 : t.conds.length ≤ 16777216 := by omega
    have l2 : t.acts.length ≤ 16777216 := by omega
    have qs := fun a1 c1 a2 c2 b1 d1 b2 d2 W x1 x2 y1 y2 => DSameTerm_any a1 c1 a2 c2 t b1 d1 b2 d2 t W l1 l2 l1 l2 x1 x2 y1 y2
    rw [decide_eq_true rfl] at qs
    dsimp only at qp qd
    clear ho hs hok htx l1 l2 qe
    replace qw := hide qw
    replace qp := hide qp
    replace qd := hide qd
    replace qy := hide qy
    replace qs := hide qs
    go_enter Tryz.func7, Tryz.ntmps7
    go_wp2_with fail
    (with_reducible refine (qp.out _ (Ext.refl _)).mono ?_)
    rintro e w1 ⟨⟨b1, d1, b2, d2, rfl, o1, o2⟩, E⟩
    have hag := E.size
    replace o1 := hide o1
    replace o2 := hide o2
    replace E := hide E
    replace hag := hide hag
    go_wp2_with fail
    have A := Blk.new w1 25 #[.slice b1 t.conds.length d1, .slice b2 t.acts.length d2]
    have bl1 := o1.out.lt
    have bl2 := o2.out.lt
    replace o1 := o1.out.alloc (Obj.cells #[.slice b1 t.conds.length d1, .slice b2 t.acts.length d2] 25)
    replace o2 := o2.out.alloc (Obj.cells #[.slice b1 t.conds.length d1, .slice b2 t.acts.length d2] 25)
    replace E := E.out.alloc (Obj.cells #[.slice b1 t.conds.length d1, .slice b2 t.acts.length d2] 25)
    have hgz : (w1.alloc (Obj.cells #[.slice b1 t.conds.length d1, .slice b2 t.acts.length d2] 25)).heap.size = w1.heap.size + 1 := by simp
    generalize w1.alloc (Obj.cells #[.slice b1 t.conds.length d1, .slice b2 t.acts.length d2] 25) = W1 at A o1 o2 E hgz ⊢
    generalize w1.heap.size = ga at A hag bl1 bl2 hgz ⊢
    replace o1 := hide o1
    replace o2 := hide o2
    replace E := hide E
    replace A := hide A
    replace bl1 := hide bl1
    replace bl2 := hide bl2
    replace hgz := hide hgz
    (with_reducible refine (qd.out _ E.out).mono ?_)
    rintro e w2 ⟨⟨e1, f1, e2, f2, rfl, p1, p2⟩, he⟩
    have he2 := he.alloc (Obj.cells #[.slice e1 t.conds.length f1, .slice e2 t.acts.length f2] 25)
    have hAB : ga < w2.heap.size := Nat.lt_of_lt_of_le A.out.lt he.size
    rw [hgz.out] at p1 p2
    replace he2 := hide he2
    replace hAB := hide hAB
    replace p1 := hide p1
    replace p2 := hide p2
    clear he
    go_upto_region 3 with fail
    replace A := A.out.ext he2.out
    have B := Blk.new w2 25 #[.slice e1 t.conds.length f1, .slice e2 t.acts.length f2]
    replace o1 := o1.out.ext he2.out
    replace o2 := o2.out.ext he2.out
    replace p1 := p1.out.alloc (Obj.cells #[.slice e1 t.conds.length f1, .slice e2 t.acts.length f2] 25)
    replace p2 := p2.out.alloc (Obj.cells #[.slice e1 t.conds.length f1, .slice e2 t.acts.length f2] 25)
    replace E := E.out.trans he2.out
    clear he2
    generalize w2.alloc (Obj.cells #[.slice e1 t.conds.length f1, .slice e2 t.acts.length f2] 25) = W2 at A B o1 o2 p1 p2 E ⊢
    generalize w2.heap.size = gb at B hAB ⊢
    have qs1 := hide (qs.out b1 d1 b2 d2 e1 f1 e2 f2 W2 ((own_sl o1).mono fun _ h => h.2) ((own_sl o2).mono fun _ h => h.2) ((own_sl p1).mono fun _ h => h.2) ((own_sl p2).mono fun _ h => h.2))
    replace A := hide A
    replace B := hide B
    replace E := hide E
    replace o1 := hide o1
    replace o2 := hide o2
    replace p1 := hide p1
    replace p2 := hide p2
    have A_0 : W2.cell? ⟨ga, 0, none⟩ = some (.slice b1 t.conds.length d1) := A.out.cell 0
    have A_1 : W2.cell? ⟨ga, 1, none⟩ = some (.slice b2 t.acts.length d2) := A.out.cell 1
    have B_0 : W2.cell? ⟨gb, 0, none⟩ = some (.slice e1 t.conds.length f1) := B.out.cell 0
    have B_1 : W2.cell? ⟨gb, 1, none⟩ = some (.slice e2 t.acts.length f2) := B.out.cell 1
    go_wp2_with fail
    (with_reducible refine qs1.out.mono ?_)
    rintro e W3 ⟨rfl, he⟩
    clear A_0 A_1 B_0 B_1
    replace A := hide (A.out.ext he)
    replace B := hide (B.out.ext he)
    replace o1 := hide (o1.out.ext he)
    replace o2 := hide (o2.out.ext he)
    replace p1 := hide (p1.out.ext he)
    replace p2 := hide (p2.out.ext he)
    replace E := hide (E.out.trans he)
    clear he qs1
    go_wp2_with fail
    (with_reducible refine (qy.out _).mono ?_)
    rintro e W4 ⟨rfl, he⟩
    replace A := hide (A.out.ext he)
    replace B := hide (B.out.ext he)
    replace o1 := hide (o1.out.ext he)
    replace o2 := hide (o2.out.ext he)
    replace p1 := hide (p1.out.ext he)
    replace p2 := hide (p2.out.ext he)
    replace E := hide (E.out.trans he)
    clear he
    go_wp2_with fail
    go_loopw [7] (fun q wq => ∃ m : Nat, m ≤ t.conds.length ∧ q = .int .i64 (m : Int) ∧ Sq w.heap.size ga W4 wq) (fun q _ => t.conds.length - (intOf q).toNat)
    case atStart => exact ⟨0, Nat.zero_le _, rfl, Sq.refl _ _ _⟩
    case round =>
      obtain ⟨m, hm, rfl, hsp⟩ := hrel
      have th : b1 = b1 := rfl
      clear th
      have z0 : wr.cell? ⟨ga, 0, none⟩ = some (.slice b1 t.conds.length d1) := hsp.cell (.inr (Nat.le_refl _)) 0 (A.out.cell 0)
      by_cases hlt : m < t.conds.length
      · obtain ⟨gi, rfl⟩ := own_ne o1.out (ne_nil_lt hlt)
        have hgi := bl1.out gi rfl
        have ht0 := hsp.there gi 0 _ (own_there o1.out) (m * 4) (by show _ < t.conds.length * 4; omega)
        rw [Nat.zero_add] at ht0
        obtain ⟨u0, hu0⟩ := Option.isSome_iff_exists.1 ht0.1
        have hf0 := ht0.2
        have ht1 := hsp.there gi 0 _ (own_there o1.out) (m * 4 + 1) (by show _ < t.conds.length * 4; omega)
        rw [Nat.zero_add] at ht1
        obtain ⟨u1, hu1⟩ := Option.isSome_iff_exists.1 ht1.1
        have hf1 := ht1.2
        have ht2 := hsp.there gi 0 _ (own_there o1.out) (m * 4 + 2) (by show _ < t.conds.length * 4; omega)
        rw [Nat.zero_add] at ht2
        obtain ⟨u2, hu2⟩ := Option.isSome_iff_exists.1 ht2.1
        have hf2 := ht2.2
        have ht3 := hsp.there gi 0 _ (own_there o1.out) (m * 4 + 3) (by show _ < t.conds.length * 4; omega)
        rw [Nat.zero_add] at ht3
        obtain ⟨u3, hu3⟩ := Option.isSome_iff_exists.1 ht3.1
        have hf3 := ht3.2
        have hs2 := hsp.set hgi.1 hgi.2 (m * 4) (.int .i64 0)
        replace hs2 := hs2.set hgi.1 hgi.2 (m * 4 + 1) (.bool false)
        replace hs2 := hs2.set hgi.1 hgi.2 (m * 4 + 2) (.string ⟨#[]⟩)
        replace hs2 := hs2.set hgi.1 hgi.2 (m * 4 + 3) (.int .i64 0)
        clear ht0 ht1 ht2 ht3 hsp hgi
        replace hs2 := hide hs2
        go_wp2_with fail
        go_roundw
        case rel => exact ⟨m + 1, by omega, by go_num, hs2.out⟩
        case measure => simp [intOf]; omega
      · have hsp3 := hide hsp
        clear hsp
        go_wp2_with fail
        clear z0 hlt hm
        go_loopw [8] (fun q wq => ∃ m : Nat, m ≤ t.acts.length ∧ q = .int .i64 (m : Int) ∧ Sq w.heap.size ga W4 wq) (fun q _ => t.acts.length - (intOf q).toNat)
        case atStart => exact ⟨0, Nat.zero_le _, rfl, hsp3.out⟩
        case round =>
          clear hsp3
          obtain ⟨m, hm, rfl, hsp⟩ := hrel
          have z1 : wr.cell? ⟨ga, 1, none⟩ = some (.slice b2 t.acts.length d2) := hsp.cell (.inr (Nat.le_refl _)) 1 (A.out.cell 1)
          by_cases hlt : m < t.acts.length
          · obtain ⟨gi, rfl⟩ := own_ne o2.out (ne_nil_lt hlt)
            have hgi := bl2.out gi rfl
            have ht0 := hsp.there gi 0 _ (own_there o2.out) (m * 4) (by show _ < t.acts.length * 4; omega)
            rw [Nat.zero_add] at ht0
            obtain ⟨u0, hu0⟩ := Option.isSome_iff_exists.1 ht0.1
            have hf0 := ht0.2
            have ht1 := hsp.there gi 0 _ (own_there o2.out) (m * 4 + 1) (by show _ < t.acts.length * 4; omega)
            rw [Nat.zero_add] at ht1
            obtain ⟨u1, hu1⟩ := Option.isSome_iff_exists.1 ht1.1
            have hf1 := ht1.2
            have ht2 := hsp.there gi 0 _ (own_there o2.out) (m * 4 + 2) (by show _ < t.acts.length * 4; omega)
            rw [Nat.zero_add] at ht2
            obtain ⟨u2, hu2⟩ := Option.isSome_iff_exists.1 ht2.1
            have hf2 := ht2.2
            have ht3 := hsp.there gi 0 _ (own_there o2.out) (m * 4 + 3) (by show _ < t.acts.length * 4; omega)
            rw [Nat.zero_add] at ht3
            obtain ⟨u3, hu3⟩ := Option.isSome_iff_exists.1 ht3.1
            have hf3 := ht3.2
            have hs2 := hsp.set hgi.1 hgi.2 (m * 4) (.int .i64 0)
            replace hs2 := hs2.set hgi.1 hgi.2 (m * 4 + 1) (.string ⟨#[]⟩)
            replace hs2 := hs2.set hgi.1 hgi.2 (m * 4 + 2) (.int .u32 0)
            replace hs2 := hs2.set hgi.1 hgi.2 (m * 4 + 3) (.string ⟨#[]⟩)
            clear ht0 ht1 ht2 ht3 hsp hgi
            replace hs2 := hide hs2
            go_wp2_with fail
            go_roundw
            case rel => exact ⟨m + 1, by omega, by go_num, hs2.out⟩
            case measure => simp [intOf]; omega
          · have E5 := hsp.ext E.out (Nat.le_refl _)
            have A5 := hsp.blk (.inr (Nat.le_refl _)) A.out
            have B5 := hsp.blk (.inr (Nat.le_of_lt hAB.out)) B.out
            have P1 := hsp.own (Nat.le_succ _) p1.out
            have P2 := hsp.own (Nat.le_succ _) p2.out
            have hlt5 := A5.lt
            clear hsp A B E o1 o2 p1 p2 bl1 bl2
            replace E5 := hide E5
            replace A5 := hide A5
            replace B5 := hide B5
            replace P1 := hide P1
            replace P2 := hide P2
            replace hlt5 := hide hlt5
            go_wp2_with fail
            clear z1 hlt hm
            (with_reducible refine (qp.out _ E5.out).mono ?_)
            rintro e W6 ⟨⟨x1, y1, x2, y2, rfl, o1, o2⟩, he⟩
            replace A5 := A5.out.ext he
            replace B5 := B5.out.ext he
            replace P1 := P1.out.ext he
            replace P2 := P2.out.ext he
            replace E5 := E5.out.trans he
            clear he
            have a0 : W6.cell? ⟨ga, 0, none⟩ = some (.slice b1 t.conds.length d1) := A5.cell 0
            have a1 : W6.cell? ⟨ga, 1, none⟩ = some (.slice b2 t.acts.length d2) := A5.cell 1
            have af := fun i => A5.frozen i
            have A6 := (A5.set_ 0 (.slice x1 t.conds.length y1)).set_ 1 (.slice x2 t.acts.length y2)
            have B6 := (B5.far (p := ⟨ga, 0, none⟩) (show gb ≠ ga by have := hAB.out; omega) (.slice x1 t.conds.length y1)).far (p := ⟨ga, 1, none⟩) (show gb ≠ ga by have := hAB.out; omega) (.slice x2 t.acts.length y2)
            have E6 := (E5.setCell (p := ⟨ga, 0, none⟩) hag.out (.slice x1 t.conds.length y1)).setCell (p := ⟨ga, 1, none⟩) hag.out (.slice x2 t.acts.length y2)
            have O1 := (o1.asideS (p := ⟨ga, 0, none⟩) hlt5.out (.slice x1 t.conds.length y1)).asideS (p := ⟨ga, 1, none⟩) hlt5.out (.slice x2 t.acts.length y2)
            have O2 := (o2.asideS (p := ⟨ga, 0, none⟩) hlt5.out (.slice x1 t.conds.length y1)).asideS (p := ⟨ga, 1, none⟩) hlt5.out (.slice x2 t.acts.length y2)
            have Q1 := (P1.asideS (p := ⟨ga, 0, none⟩) (show ga < ga + 1 by omega) (.slice x1 t.conds.length y1)).asideS (p := ⟨ga, 1, none⟩) (show ga < ga + 1 by omega) (.slice x2 t.acts.length y2)
            have Q2 := (P2.asideS (p := ⟨ga, 0, none⟩) (show ga < ga + 1 by omega) (.slice x1 t.conds.length y1)).asideS (p := ⟨ga, 1, none⟩) (show ga < ga + 1 by omega) (.slice x2 t.acts.length y2)
            clear A5 B5 P1 P2 E5 o1 o2 hlt5
            replace A6 := hide A6
            replace B6 := hide B6
            replace E6 := hide E6
            replace O1 := hide O1
            replace O2 := hide O2
            replace Q1 := hide Q1
            replace Q2 := hide Q2
            go_upto_region 14 with fail
            clear a0 a1 af
            generalize (W6.setCell ⟨ga, 0, none⟩ (.slice x1 t.conds.length y1)).setCell ⟨ga, 1, none⟩ (.slice x2 t.acts.length y2) = W7 at A6 B6 E6 O1 O2 Q1 Q2 ⊢
            have qs2 := hide (qs.out x1 y1 x2 y2 e1 f1 e2 f2 W7 ((own_sl O1.out).mono fun _ h => h.2) ((own_sl O2.out).mono fun _ h => h.2) ((own_sl Q1.out).mono fun _ h => h.2) ((own_sl Q2.out).mono fun _ h => h.2))
            have a0 : W7.cell? ⟨ga, 0, none⟩ = some (.slice x1 t.conds.length y1) := A6.out.cell 0
            have a1 : W7.cell? ⟨ga, 1, none⟩ = some (.slice x2 t.acts.length y2) := A6.out.cell 1
            have b0 : W7.cell? ⟨gb, 0, none⟩ = some (.slice e1 t.conds.length f1) := B6.out.cell 0
            have b1' : W7.cell? ⟨gb, 1, none⟩ = some (.slice e2 t.acts.length f2) := B6.out.cell 1
            clear A6 B6 O1 O2 Q1 Q2 qs
            go_wp2_with fail
            (with_reducible refine qs2.out.mono ?_)
            rintro e W8 ⟨rfl, he⟩
            replace E6 := hide (E6.out.trans he)
            clear he qs2 a0 a1 b0 b1'
            go_wp2_with fail
            (with_reducible refine (qy.out _).mono ?_)
            rintro e W9 ⟨rfl, he⟩
            replace E6 := hide (E6.out.trans he)
            clear he
            go_wp2_with fail
            (with_reducible refine (qw.out _ E6.out).mono ?_)
            rintro e W10 ⟨rfl, he⟩
            replace E6 := hide (E6.out.trans he)
            clear he
            go_wp2_with fail
            go_ret
            exact ⟨rfl, E6.out⟩
end
end
end Go.Proofs.YtljibkfbldjgdaaGreatDoor
