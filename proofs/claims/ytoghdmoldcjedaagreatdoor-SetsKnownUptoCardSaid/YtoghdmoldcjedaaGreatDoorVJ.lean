/- Walks: the text of a pattern (sets.Text). -/
import Derived.Test.YtoghdmoldcjedaaGreatDoorVH
import Derived.Test.YtoghdmoldcjedaaGreatDoorPG
import Derived.Test.YtoghdmoldcjedaaGreatDoorQ1
import Derived.Test.YtoghdmoldcjedaaGreatDoorLib
namespace Go.Proofs.YtoghdmoldcjedaaGreatDoor
open Go.RowKit Go.Sort
set_option linter.unusedVariables false

def wordB (a : Atm) : ByteArray := ⟨(wordT a).toArray⟩
theorem wordT_len (a : Atm) : (wordT a).length ≤ 21 := by
  unfold wordT
  split
  · decide
  · split
    · decide
    · exact Nat.le_trans (digS_len (by decide) 10 _ (by have := a.2.toNat_lt; omega) (by decide)) (by decide)
theorem textL_join (l : List Atm) (h : l ≠ []) : textL l = Lib.join ((l.map wordB).map (·.data.toList)) [32] := by
  unfold textL
  rw [if_neg h, List.map_map]
  congr 1
theorem join_len (n : Nat) : ∀ (L : List (List UInt8)), (∀ x ∈ L, x.length ≤ n) → (Lib.join L [32]).length ≤ (n + 1) * L.length
  | [], _ => by simp [Lib.join]
  | [x], h => by have := h x (by simp); simp [Lib.join]; omega
  | x :: y :: r, h => by
    have h1 := h x (by simp)
    have h2 := join_len n (y :: r) (fun z hz => h z (by simp [hz]))
    rw [show Lib.join (x :: y :: r) [32] = x ++ 32 :: Lib.join (y :: r) [32] from by simp [Lib.join, List.intercalate], List.length_append, List.length_cons]
    have h3 : (n + 1) * (x :: y :: r).length = (n + 1) * (y :: r).length + (n + 1) := by rw [List.length_cons, Nat.mul_add, Nat.mul_one]
    omega

set_option maxRecDepth 20000 in
set_option maxHeartbeats 4000000 in
theorem Text_any (a : Option Addr) (c : Nat) (l : List Atm) (w : World) (hT : Tab w) (hl : l.length ≤ 16777216) (hs : Sl EAtm w (· < w.heap.size) a l) :
    Calls Tryz.prog 23 #[.slice a l.length c] w fun e w' => e = .returned (.tuple #[.string ⟨(textA l).1.toArray⟩, .int .i64 (textA l).2]) ∧ Ext w w' := by
  have q1 := Atoms_any a c l w hl hs
  by_cases hok : atmsOk l = true
  · have htx : textA l = (textL l, 0) := if_pos hok
    rw [htx]
    rw [hok] at q1
    dsimp only
    replace hT := hide hT
    replace hs := hide hs
    replace q1 := hide q1
    by_cases hnil : l = []
    · subst hnil
      go_enter Tryz.func23, Tryz.ntmps23
      go_wp2_with fail
      refine q1.out.mono ?_
      rintro e W1 ⟨rfl, he⟩
      go_wp2
      go_ret2
      exact ⟨rfl, he⟩
    · have hlen0 : decide ((l.length : Int) = 0) = false := decide_eq_false (fun h => hnil (List.length_eq_zero_iff.1 (by omega)))
      have hlen1 : ¬ ((l.length : Int) = 0) := fun h => hnil (List.length_eq_zero_iff.1 (by omega))
      have h64 : l.length ≤ 64 := by unfold atmsOk at hok; simp at hok; exact hok.2
      go_enter Tryz.func23, Tryz.ntmps23
      go_wp2_with fail
      refine q1.out.mono ?_
      rintro e W1 ⟨rfl, he⟩
      clear q1 htx hok
      replace he := hide he
      go_wp2
      rw [show ((l.length : Int) == 0) = false by simpa using hlen1]
      go_loopw [4, 15] (fun v q wr => ∃ k : Nat, k ≤ l.length ∧ q = .int .i64 k ∧ Own EStr 9 wr w.heap.size v ((l.take k).map wordB) ∧ Ext w wr) (fun _ q _ => l.length - (intOf q).toNat)
      case atStart => exact ⟨0, by omega, rfl, by rw [List.take_zero]; exact Own.nil, he.out⟩
      case round =>
        clear he
        obtain ⟨k, hk, rfl, hown, E⟩ := hrel
        have hz0 := E.size
        obtain ⟨vo, dd, rfl⟩ := hown.form
        have hlk : ((l.take k).map wordB).length = k := by simp; omega
        rw [hlk] at hown ⊢
        by_cases hlt : k < l.length
        · obtain ⟨b, off, rfl, _, hkd, x0, x1⟩ := EAtm.at (hs.out.ext E) k hlt
          have hnx : (l.take k).map wordB ++ [wordB l[k]] = (l.take (k + 1)).map wordB := by rw [List.take_succ_eq_append_getElem hlt, List.map_append]; rfl
          have hsz : (wordB l[k]).size ≤ 21 := wordT_len _
          generalize l[k] = x at hnx hsz hkd x0 x1
          obtain ⟨kd, av⟩ := x
          have A := Blk.new wr 40 #[.int .i64 kd, .int .u32 (av.toNat : Int)]
          have E' := E.alloc (Obj.cells #[.int .i64 kd, .int .u32 (av.toNat : Int)] 40)
          have O' := hown.alloc (Obj.cells #[.int .i64 kd, .int .u32 (av.toNat : Int)] 40)
          clear E hown
          generalize hW : wr.alloc (Obj.cells #[.int .i64 kd, .int .u32 (av.toNat : Int)] 40) = W at A E' O'
          generalize hg : wr.heap.size = g at A
          have A_0 : W.cell? ⟨g, 0, none⟩ = some (.int .i64 kd) := A.cell 0
          have A_1 : W.cell? ⟨g, 1, none⟩ = some (.int .u32 (av.toNat : Int)) := A.cell 1
          have hzW := E'.size
          replace A := hide A
          replace E' := hide E'
          replace O' := hide O'
          replace hlk := hide hlk
          replace hnx := hide hnx
          replace hsz := hide hsz
          by_cases h2 : kd = 2
          · subst h2
            replace hnx := hnx.out
            rw [show wordB (2, av) = ⟨#[46]⟩ from rfl] at hnx
            replace hnx := hide hnx
            go_wp2_with (at_builtin
                         have hox := O'.out.alloc (Obj.cells #[.string ⟨#[46]⟩] 9)
                         refine wpList_push (E := EStr) rfl _ _ _ rfl okStr (by decide) (by decide) rfl hox (by rw [hlk.out]; omega) (by simp; omega) rfl (y := ⟨#[46]⟩) (cs := [.string ⟨#[46]⟩]) ⟨rfl, show 1 ≤ maxLen by unfold maxLen; omega⟩ (str_new' _ _ _) ?_
                         intro v' w5 hown1 hg hat)
            go_roundw
            case rel => exact ⟨k + 1, by omega, by go_num, by rw [← hnx.out]; exact hown1, (E'.out.alloc _).push (fun j hj => (O'.out.lt j hj).1) hg⟩
            case measure => simp [intOf]; omega
          · by_cases h3 : kd = 3
            · subst h3
              replace hnx := hnx.out
              rw [show wordB (3, av) = ⟨#[42]⟩ from rfl] at hnx
              replace hnx := hide hnx
              go_wp2_with (at_builtin
                           have hox := O'.out.alloc (Obj.cells #[.string ⟨#[42]⟩] 9)
                           refine wpList_push (E := EStr) rfl _ _ _ rfl okStr (by decide) (by decide) rfl hox (by rw [hlk.out]; omega) (by simp; omega) rfl (y := ⟨#[42]⟩) (cs := [.string ⟨#[42]⟩]) ⟨rfl, show 1 ≤ maxLen by unfold maxLen; omega⟩ (str_new' _ _ _) ?_
                           intro v' w5 hown1 hg hat)
              go_roundw
              case rel => exact ⟨k + 1, by omega, by go_num, by rw [← hnx.out]; exact hown1, (E'.out.alloc _).push (fun j hj => (O'.out.lt j hj).1) hg⟩
              case measure => simp [intOf]; omega
            · have hw : wordB (kd, av) = dec av.toNat := by
                unfold wordB wordT dec
                rw [if_neg h2, if_neg h3, digS_dec]
              replace hnx := hnx.out
              replace hsz := hsz.out
              rw [hw] at hnx hsz
              replace hnx := hide hnx
              replace hsz := hide hsz
              have hF := FormatUint_any av.toNat (by have := av.toNat_lt; omega) W (hT.out.ext E'.out)
              have hwr : IntKind.u64.wrap (av.toNat : Int) = (av.toNat : Int) := by rw [IntKind.wrap_u64]; have := av.toNat_lt; omega
              rw [← hwr] at hF
              clear hwr
              replace hF := hide hF
              go_wp2_with fail
              refine hF.out.mono ?_
              rintro e w3 ⟨rfl, he3⟩
              have O3 := hide (O'.out.ext he3)
              have E3 := hide (E'.out.trans he3)
              have hz3 := he3.size
              clear he3
              go_wp2_with (at_builtin
                           have hox := O3.out.alloc (Obj.cells #[.string (dec av.toNat)] 9)
                           refine wpList_push (E := EStr) rfl _ _ _ rfl okStr (by decide) (by decide) rfl hox (by rw [hlk.out]; omega) (by simp; omega) rfl (y := dec av.toNat) (cs := [.string (dec av.toNat)]) ⟨rfl, by have := hsz.out; unfold maxLen; omega⟩ (str_new' _ _ _) ?_
                           intro v' w5 hown1 hg hat)
              go_roundw
              case rel => exact ⟨k + 1, by omega, by go_num, by rw [← hnx.out]; exact hown1, (E3.out.alloc _).push (fun j hj => (O3.out.lt j hj).1) hg⟩
              case measure => simp [intOf]; omega
        · obtain rfl : k = l.length := by omega
          rw [List.take_length] at hown hlk
          obtain ⟨a9, c9, hv9, hc9, hs9⟩ := hown.slc
          injection hv9 with e1 e2 e3
          subst e1 e3
          clear e2
          have hJ := Join_any vo dd (l.map wordB) 32 wr _ (fun b hb => hb.2) hs9 (by simpa using hnil) hc9 (by rw [hlk]; omega) (by
            have := join_len 21 ((l.map wordB).map (·.data.toList)) (fun x hx => by
              obtain ⟨y, hy, rfl⟩ := List.mem_map.1 hx
              obtain ⟨z, _, rfl⟩ := List.mem_map.1 hy
              exact wordT_len z)
            simp only [List.length_map] at this ⊢
            omega)
          rw [hlk, ← textL_join l hnil] at hJ
          clear hs9 hc9 hown
          replace hJ := hide hJ
          replace E := hide E
          go_wp2_with fail
          refine hJ.out.mono ?_
          rintro e w6 ⟨rfl, he6⟩
          replace he6 := hide he6
          go_wp2
          go_ret2
          exact ⟨rfl, E.out.trans he6.out⟩
  · have htx : textA l = ([], 2) := if_neg hok
    rw [htx]
    rw [show atmsOk l = false by simpa using hok] at q1
    dsimp only
    replace hT := hide hT
    replace hs := hide hs
    replace q1 := hide q1
    go_enter Tryz.func23, Tryz.ntmps23
    go_wp2_with fail
    refine q1.out.mono ?_
    rintro e W1 ⟨rfl, he⟩
    go_wp2
    go_ret2
    exact ⟨rfl, he⟩
end Go.Proofs.YtoghdmoldcjedaaGreatDoor
