/- Walks: the document's Check and Encode. -/
import Derived.Test.YtiappobhljiknaaDoorW6
namespace Go.Proofs.YtiappobhljiknaaDoor
open Go.RowKit
set_option linter.unusedVariables false

set_option maxRecDepth 20000 in
set_option maxHeartbeats 2000000 in
theorem RCheck_any (a : Option Addr) (c : Nat) (l : List Seg) (w : World) (hl : l.length ≤ 16777216) (hs : Path w a l) :
    Calls Tryd.prog 23 #[.slice a l.length c] w fun e w' => e = .returned (.int .i64 (errOf (chk l))) ∧ w = w' := by
  replace hs := hide hs
  by_cases h16 : 16 < l.length
  · have hc : chk l = false := by simp [chk]; omega
    replace hc := hide hc
    go_enter Tryd.func23, Tryd.ntmps23
    go_wp2
    go_ret
    exact ⟨by rw [hc.out]; rfl, rfl⟩
  · go_enter Tryd.func23, Tryd.ntmps23
    go_wp2
    go_loop [3] (fun i => ∃ k : Nat, k ≤ l.length ∧ i = .int .i64 k ∧ (l.take k).all segOk = true) (fun i => l.length - (intOf i).toNat)
    case atStart => exact ⟨0, Nat.zero_le _, rfl, rfl⟩
    case round =>
      obtain ⟨k, hk, rfl, ha⟩ := hrel
      replace ha := hide ha
      by_cases hlt : k < l.length
      · obtain ⟨b, off, ak, ck, rfl, _, h0, h1, hm, hs', hk1, hk2⟩ := ESeg.at hs.out k hlt
        replace hs' := hide hs'
        by_cases hA : (1 ≤ l[k].kind ∧ l[k].kind ≤ 4) ∧ (1 ≤ l[k].as.length ∧ l[k].as.length ≤ 255)
        · obtain ⟨⟨g1, g2⟩, g3, g4⟩ := hA
          have d1 : decide (l[k].kind < 1) = false := by simp; omega
          have d2 : decide (4 < l[k].kind) = false := by simp; omega
          have d3 : decide ((l[k].as.length : Int) < 1) = false := by simp; omega
          have d4 : decide (255 < (l[k].as.length : Int)) = false := by simp; omega
          go_wp2
          go_loop [4] (fun i => ∃ j : Nat, j ≤ l[k].as.length ∧ i = .int .i64 j ∧ ∀ m, m < j → l[k].as[m]? ≠ some 0) (fun i => l[k].as.length - (intOf i).toNat)
          case atStart => exact ⟨0, Nat.zero_le _, rfl, fun m hm => by omega⟩
          case round =>
            obtain ⟨j, hj, rfl, hz⟩ := hrel
            replace hz := hide hz
            by_cases hltj : j < l[k].as.length
            · obtain ⟨b4, o4, rfl, _, q0⟩ := EU32.at hs'.out j hltj
              have hb := u32_beq l[k].as[j] 0
              by_cases hq : l[k].as[j] = 0
              · rw [show (l[k].as[j] == 0) = true by simpa using hq] at hb
                have hno : segOk l[k] = false := by
                  have : (0 : UInt32) ∈ l[k].as := hq ▸ List.getElem_mem hltj
                  simp [segOk, this]
                replace hq := hide hq
                replace hno := hide hno
                simp only [UInt32.toNat_zero, Int.cast_ofNat_Int] at hb
                go_wp2
                go_ret
                exact ⟨ret_int (chk_bad l k hlt hno.out).symm, rfl⟩
              · rw [show (l[k].as[j] == 0) = false by simpa using hq] at hb
                replace hq := hide hq
                simp only [UInt32.toNat_zero, Int.cast_ofNat_Int] at hb
                go_wp2
                go_round
                case rel => exact ⟨j + 1, by omega, by go_num, fun m hm => by
                  rcases Nat.lt_or_ge m j with h | h
                  · exact hz.out m h
                  · obtain rfl : m = j := by omega
                    rw [List.getElem?_eq_getElem hltj]
                    intro he; injection he with he; exact hq.out he⟩
                case measure => simp [intOf]; omega
            · have hok : segOk l[k] = true := by
                have hnz : (0 : UInt32) ∉ l[k].as := by
                  intro h
                  obtain ⟨m, hm', he⟩ := List.getElem_of_mem h
                  exact hz.out m (by omega) (by rw [List.getElem?_eq_getElem hm', he])
                simp [segOk, hnz]; omega
              replace hok := hide hok
              go_wp2
              go_round
              case rel => exact ⟨k + 1, by omega, by go_num, by rw [all_take_succ l k hlt, ha.out, hok.out]; rfl⟩
              case measure => simp [intOf]; omega
        · have hno : segOk l[k] = false := by
            simp only [segOk, Bool.and_eq_false_iff, decide_eq_false_iff_not]
            left
            omega
          replace hno := hide hno
          clear hs'
          go_wp2
          all_goals first
            | (exfalso; omega)
            | (go_ret
               exact ⟨ret_int (chk_bad l k hlt hno.out).symm, rfl⟩)
      · go_wp2
        go_ret
        refine ⟨ret_int ?_, rfl⟩
        obtain rfl : k = l.length := by omega
        have := ha.out
        rw [List.take_length] at this
        simp [chk, this, errOf]; omega

theorem RCheck_ok (a : Option Addr) (c : Nat) (l : List Seg) (w : World) (hl : l.length ≤ 16777216) (hs : Path w a l) (h : chk l = true) :
    Calls Tryd.prog 23 #[.slice a l.length c] w fun e w' => e = .returned (.int .i64 0) ∧ w = w' := by
  have := RCheck_any a c l w hl hs
  rw [h] at this
  exact this
theorem RCheck_no (a : Option Addr) (c : Nat) (l : List Seg) (w : World) (hl : l.length ≤ 16777216) (hs : Path w a l) (h : chk l = false) :
    Calls Tryd.prog 23 #[.slice a l.length c] w fun e w' => e = .returned (.int .i64 2) ∧ w = w' := by
  have := RCheck_any a c l w hl hs
  rw [h] at this
  exact this
theorem RPut_int (s : ByteArray) (v n : Int) (m : Nat) (w : World) (hn : n = m) (h1 : 1 ≤ m) (h8 : m ≤ 8) (h0 : 0 ≤ v) (hv : v < 18446744073709551616) (hvn : v.toNat < 2 ^ (8 * m)) (hs : s.size ≤ 33554432) :
    Calls Tryd.prog 44 #[.string s, .int .u64 v, .int .i64 n] w fun e w' => e = .returned (.tuple #[.string (put s m v.toNat), .int .i64 0]) ∧ Ext w w' := by
  subst hn
  obtain ⟨u, rfl⟩ := Int.eq_ofNat_of_zero_le h0
  exact RPut_any s u m w h1 h8 (by omega) (by simpa using hvn) hs

set_option maxRecDepth 20000 in
set_option maxHeartbeats 2000000 in
theorem REncode_ok_true (a : Option Addr) (c : Nat) (l : List Seg) (w : World) (hl : l.length ≤ 16777216) (hs : Path w a l) (hck : chk l = true) :
    Calls Tryd.prog 14 #[.slice a l.length c, .bool true] w fun e w' => e = .returned (.tuple #[.string ⟨(pathB true l).toArray⟩, .int .i64 0]) ∧ Ext w w' := by
  replace hs := hide hs
  replace hck := hide hck
  go_enter Tryd.func14, Tryd.ntmps14
  go_wp2_with (go_at_call 23; refine (RCheck_ok _ _ l _ hl hs.out hck.out).mono ?_; rintro e w1 ⟨rfl, rfl⟩)
  go_loopw [6, 7] (fun s i wr => ∃ (k : Nat) (t : ByteArray), k ≤ l.length ∧ i = .int .i64 k ∧ s = .string t ∧ t.data.toList = pathB true (l.take k) ∧ Ext w wr) (fun _ i _ => l.length - (intOf i).toNat)
  case atStart => exact ⟨0, ⟨#[]⟩, Nat.zero_le _, rfl, rfl, rfl, Ext.refl _⟩
  case round =>
    obtain ⟨k, t, hk, rfl, rfl, ht, hE⟩ := hrel
    replace hE := hide hE
    have hts : t.size ≤ 16352 := by rw [size_list, ht]; have := segB_le true hck.out k hk; omega
    replace ht := hide ht
    by_cases hlt : k < l.length
    · obtain ⟨b1, o1, a1, c1, rfl, _, h0, h1, hm1, hs1, hk1, hk2⟩ := ESeg.at hs.out k hlt
      obtain ⟨g1, g2, g3, g4, _⟩ := chk_at hck.out k hlt
      have h0' := hE.out.cell h0
      have h1' := hE.out.cell h1
      replace h0 := hide h0
      replace h1 := hide h1
      replace hs1 := hide hs1
      go_wp2_with (go_at_call 44; first
        | (have tok := d1; clear tok; refine (RPut_int (put t 1 l[k].kind.toNat) _ _ 1 _ rfl (by omega) (by omega) (by omega) (by omega) (by omega) (by rw [size_list, put_list, List.length_append, be_length, ← size_list]; omega)).mono ?_; rintro e w3 ⟨rfl, he3⟩; have e1 := he3.cell d1; replace he3 := hide he3)
        | (refine (RPut_int t _ _ 1 _ rfl (by omega) (by omega) (by omega) (by omega) (by omega) (by omega)).mono ?_; rintro e w2 ⟨rfl, he2⟩; have d1 := he2.cell h1'; replace he2 := hide he2))
      have hE3 := hide ((hE.out.trans he2.out).trans he3.out)
      go_loopw [6, 8] (fun s i wq => ∃ (j : Nat) (u : ByteArray), j ≤ l[k].as.length ∧ i = .int .i64 j ∧ s = .string u ∧ u.data.toList = pathB true (l.take k) ++ (be 1 l[k].kind.toNat ++ be 1 l[k].as.length ++ (l[k].as.take j).flatMap (asB true)) ∧ Ext w wq) (fun _ i _ => l[k].as.length - (intOf i).toNat)
      case atStart => exact ⟨0, _, Nat.zero_le _, rfl, rfl, by rw [put_list, put_list, ht.out]; simp, hE3.out⟩
      case round =>
        obtain ⟨j, u, hj, rfl, rfl, hu, hEq⟩ := hrel
        have hus : u.size ≤ 33554432 := by
          have h1 := congrArg List.length hu
          have h2 := flatMap_le (asB true) 4 (asB_length true) (l[k].as.take j)
          have h3 := segB_le true hck.out k hk
          rw [size_list]
          simp only [List.length_append, be_length, List.length_take] at h1 h2
          omega
        have q1 := hEq.cell h1.out
        replace hEq := hide hEq
        replace hu := hide hu
        by_cases hltj : j < l[k].as.length
        · obtain ⟨b4, o4, rfl, _, q0⟩ := EU32.at (hs1.out.ext hEq.out) j hltj
          have hx := l[k].as[j].toNat_lt
          have hfs := flatMap_succ (asB true) l[k].as j hltj
          replace hfs := hide hfs
          have hasB : asB true l[k].as[j] = be 4 l[k].as[j].toNat := by unfold asB; simp 
          replace hasB := hide hasB
          go_wp2_with (go_at_call 44; refine (RPut_int u _ _ 4 _ rfl (by omega) (by omega) (by omega) (by omega) (by first | (simp; done) | (simp; omega)) hus).mono ?_; rintro e w4 ⟨rfl, he4⟩; replace he4 := hide he4)
          go_roundw
          case rel => exact ⟨j + 1, put u 4 l[k].as[j].toNat, by omega, by go_num, rfl, by rw [put_list, hu.out, hfs.out, hasB.out]; simp, hEq.out.trans he4.out⟩
          case measure => simp [intOf]; omega
        · go_wp2
          have hjl : j = l[k].as.length := by omega
          have hu1 := hu.out
          rw [hjl, List.take_length] at hu1
          go_roundw
          case rel => exact ⟨k + 1, _, by omega, by go_num, rfl, by rw [pathB_succ _ _ _ hlt]; exact hu1, hEq.out⟩
          case measure => simp [intOf]; omega
    · have hkl : k = l.length := by omega
      have ht1 := ht.out
      rw [hkl, List.take_length] at ht1
      have hts : t = ⟨(pathB true l).toArray⟩ := by rw [← ht1]
      replace hts := hide hts
      replace ht1 := hide ht1
      go_wp2
      go_ret2
      exact ⟨by rw [← hts.out]; rfl, hE.out⟩

set_option maxRecDepth 20000 in
set_option maxHeartbeats 2000000 in
theorem REncode_ok_false (a : Option Addr) (c : Nat) (l : List Seg) (w : World) (hl : l.length ≤ 16777216) (hs : Path w a l) (hck : chk l = true) :
    Calls Tryd.prog 14 #[.slice a l.length c, .bool false] w fun e w' => e = .returned (.tuple #[.string ⟨(pathB false l).toArray⟩, .int .i64 0]) ∧ Ext w w' := by
  replace hs := hide hs
  replace hck := hide hck
  go_enter Tryd.func14, Tryd.ntmps14
  go_wp2_with (go_at_call 23; refine (RCheck_ok _ _ l _ hl hs.out hck.out).mono ?_; rintro e w1 ⟨rfl, rfl⟩)
  go_loopw [6, 7] (fun s i wr => ∃ (k : Nat) (t : ByteArray), k ≤ l.length ∧ i = .int .i64 k ∧ s = .string t ∧ t.data.toList = pathB false (l.take k) ∧ Ext w wr) (fun _ i _ => l.length - (intOf i).toNat)
  case atStart => exact ⟨0, ⟨#[]⟩, Nat.zero_le _, rfl, rfl, rfl, Ext.refl _⟩
  case round =>
    obtain ⟨k, t, hk, rfl, rfl, ht, hE⟩ := hrel
    replace hE := hide hE
    have hts : t.size ≤ 16352 := by rw [size_list, ht]; have := segB_le false hck.out k hk; omega
    replace ht := hide ht
    by_cases hlt : k < l.length
    · obtain ⟨b1, o1, a1, c1, rfl, _, h0, h1, hm1, hs1, hk1, hk2⟩ := ESeg.at hs.out k hlt
      obtain ⟨g1, g2, g3, g4, _⟩ := chk_at hck.out k hlt
      have h0' := hE.out.cell h0
      have h1' := hE.out.cell h1
      replace h0 := hide h0
      replace h1 := hide h1
      replace hs1 := hide hs1
      go_wp2_with (go_at_call 44; first
        | (have tok := d1; clear tok; refine (RPut_int (put t 1 l[k].kind.toNat) _ _ 1 _ rfl (by omega) (by omega) (by omega) (by omega) (by omega) (by rw [size_list, put_list, List.length_append, be_length, ← size_list]; omega)).mono ?_; rintro e w3 ⟨rfl, he3⟩; have e1 := he3.cell d1; replace he3 := hide he3)
        | (refine (RPut_int t _ _ 1 _ rfl (by omega) (by omega) (by omega) (by omega) (by omega) (by omega)).mono ?_; rintro e w2 ⟨rfl, he2⟩; have d1 := he2.cell h1'; replace he2 := hide he2))
      have hE3 := hide ((hE.out.trans he2.out).trans he3.out)
      go_loopw [6, 8] (fun s i wq => ∃ (j : Nat) (u : ByteArray), j ≤ l[k].as.length ∧ i = .int .i64 j ∧ s = .string u ∧ u.data.toList = pathB false (l.take k) ++ (be 1 l[k].kind.toNat ++ be 1 l[k].as.length ++ (l[k].as.take j).flatMap (asB false)) ∧ Ext w wq) (fun _ i _ => l[k].as.length - (intOf i).toNat)
      case atStart => exact ⟨0, _, Nat.zero_le _, rfl, rfl, by rw [put_list, put_list, ht.out]; simp, hE3.out⟩
      case round =>
        obtain ⟨j, u, hj, rfl, rfl, hu, hEq⟩ := hrel
        have hus : u.size ≤ 33554432 := by
          have h1 := congrArg List.length hu
          have h2 := flatMap_le (asB false) 4 (asB_length false) (l[k].as.take j)
          have h3 := segB_le false hck.out k hk
          rw [size_list]
          simp only [List.length_append, be_length, List.length_take] at h1 h2
          omega
        have q1 := hEq.cell h1.out
        replace hEq := hide hEq
        replace hu := hide hu
        by_cases hltj : j < l[k].as.length
        · obtain ⟨b4, o4, rfl, _, q0⟩ := EU32.at (hs1.out.ext hEq.out) j hltj
          have hx := l[k].as[j].toNat_lt
          have hfs := flatMap_succ (asB false) l[k].as j hltj
          replace hfs := hide hfs
          by_cases hbig : 65535 < l[k].as[j].toNat
          · have hasB : asB false l[k].as[j] = be 2 23456 := by unfold asB; simp [hbig]
            replace hasB := hide hasB
            go_wp2_with (go_at_call 44; refine (RPut_int u _ _ 2 _ rfl (by omega) (by omega) (by omega) (by omega) (by first | (simp; done) | (simp; omega)) hus).mono ?_; rintro e w4 ⟨rfl, he4⟩; replace he4 := hide he4)
            go_roundw
            case rel => exact ⟨j + 1, put u 2 23456, by omega, by go_num, rfl, by rw [put_list, hu.out, hfs.out, hasB.out]; simp, hEq.out.trans he4.out⟩
            case measure => simp [intOf]; omega
          · have hasB : asB false l[k].as[j] = be 2 l[k].as[j].toNat := by unfold asB; simp [hbig]
            replace hasB := hide hasB
            go_wp2_with (go_at_call 44; refine (RPut_int u _ _ 2 _ rfl (by omega) (by omega) (by omega) (by omega) (by first | (simp; done) | (simp; omega)) hus).mono ?_; rintro e w4 ⟨rfl, he4⟩; replace he4 := hide he4)
            go_roundw
            case rel => exact ⟨j + 1, put u 2 l[k].as[j].toNat, by omega, by go_num, rfl, by rw [put_list, hu.out, hfs.out, hasB.out]; simp, hEq.out.trans he4.out⟩
            case measure => simp [intOf]; omega
        · go_wp2
          have hjl : j = l[k].as.length := by omega
          have hu1 := hu.out
          rw [hjl, List.take_length] at hu1
          go_roundw
          case rel => exact ⟨k + 1, _, by omega, by go_num, rfl, by rw [pathB_succ _ _ _ hlt]; exact hu1, hEq.out⟩
          case measure => simp [intOf]; omega
    · have hkl : k = l.length := by omega
      have ht1 := ht.out
      rw [hkl, List.take_length] at ht1
      have hts : t = ⟨(pathB false l).toArray⟩ := by rw [← ht1]
      replace hts := hide hts
      replace ht1 := hide ht1
      go_wp2
      go_ret2
      exact ⟨by rw [← hts.out]; rfl, hE.out⟩

theorem REncode_any (a : Option Addr) (c : Nat) (l : List Seg) (four : Bool) (w : World) (hl : l.length ≤ 16777216) (hs : Path w a l) :
    Calls Tryd.prog 14 #[.slice a l.length c, .bool four] w fun e w' => e = .returned (.tuple #[.string (encS l four), .int .i64 (errOf (chk l))]) ∧ Ext w w' := by
  cases h : chk l
  · rw [show encS l four = ⟨#[]⟩ by simp [encS, h]]
    replace hs := hide hs
    replace h := hide h
    go_enter Tryd.func14, Tryd.ntmps14
    go_wp2_with (go_at_call 23; refine (RCheck_no _ _ l _ hl hs.out h.out).mono ?_; rintro e w1 ⟨rfl, rfl⟩)
    go_ret2
    exact ⟨rfl, Ext.refl _⟩
  · rw [show encS l four = ⟨(pathB four l).toArray⟩ by simp [encS, h]]
    cases four
    · exact REncode_ok_false a c l w hl hs h
    · exact REncode_ok_true a c l w hl hs h
end Go.Proofs.YtiappobhljiknaaDoor
