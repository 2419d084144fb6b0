/- Walks: a path as bytes: aspath.Encode, and the document's. -/
import Derived.Test.YtiappobhljiknaaDoorW5
namespace Go.Proofs.YtiappobhljiknaaDoor
open Go.RowKit
set_option linter.unusedVariables false

set_option maxHeartbeats 1000000 in
/-- The closure of aspath.Encode: puts a number behind the captured text. -/
theorem Put1_any (g : Nat) (s : ByteArray) (v n : Nat) (w : World) (hb : Blk w g 9 #[.string s]) (h1 : 1 ≤ n) (h8 : n ≤ 8) (hv : v < 18446744073709551616) (hvn : v < 2 ^ (8 * n)) (hs : s.size ≤ 33554432) :
    Calls Tryd.prog 42 #[.int .u64 v, .int .i64 n, .pointer (some ⟨g, 0, none⟩)] w fun e w' => e = .returned (.tuple #[]) ∧ ∃ w1, Ext w w1 ∧ w' = w1.setCell ⟨g, 0, none⟩ (.string (put s n v)) := by
  have c0 := hb.cell 0
  simp only [List.getElem?_toArray, List.getElem?_cons_zero] at c0
  go_enter Tryd.func42, Tryd.ntmps42
  go_wp2_with (go_at_call 43; refine (WPut_any s v n _ h1 h8 hv hvn hs).mono ?_; rintro e w1 ⟨rfl, he⟩; have c1 := (hb.ext he).cell 0; have c2 := (hb.ext he).frozen 0; simp only [List.getElem?_toArray, List.getElem?_cons_zero] at c1; replace he := hide he)
  go_end0
  exact ⟨rfl, w1, he.out, rfl⟩

theorem Put1_int (g : Nat) (s : ByteArray) (v n : Int) (m : Nat) (w : World) (hb : Blk w g 9 #[.string s]) (hn : n = m) (h1 : 1 ≤ m) (h8 : m ≤ 8) (h0 : 0 ≤ v) (hv : v < 18446744073709551616) (hvn : v.toNat < 2 ^ (8 * m)) (hs : s.size ≤ 33554432) :
    Calls Tryd.prog 42 #[.int .u64 v, .int .i64 n, .pointer (some ⟨g, 0, none⟩)] w fun e w' => e = .returned (.tuple #[]) ∧ ∃ w1, Ext w w1 ∧ w' = w1.setCell ⟨g, 0, none⟩ (.string (put s m v.toNat)) := by
  subst hn
  obtain ⟨u, rfl⟩ := Int.eq_ofNat_of_zero_le h0
  exact Put1_any g s u m w hb h1 h8 (by omega) (by simpa using hvn) hs
theorem Blk.put {w w1 : World} {g : Nat} {t : TypeId} {u u' : Value} (h : Blk w g t #[u]) (he : Ext w w1) : Blk (w1.setCell ⟨g, 0, none⟩ u') g t #[u'] := by
  have := (h.ext he).set_ 0 u'
  simpa using this
theorem put_list (s : ByteArray) (n v : Nat) : (put s n v).data.toList = s.data.toList ++ be n v := rfl
theorem size_list (s : ByteArray) : s.size = s.data.toList.length := by simp

set_option maxRecDepth 20000 in
set_option maxHeartbeats 2000000 in
theorem AEncode_ok (a : Option Addr) (c : Nat) (l : List Seg) (four : Bool) (w : World) (hl : l.length ≤ 16777216) (hs : Path w a l) (hck : chk l = true) :
    Calls Tryd.prog 13 #[.slice a l.length c, .bool four] w fun e w' => e = .returned (.tuple #[.string ⟨(pathB four l).toArray⟩, .int .i64 0]) ∧ Ext w w' := by
  replace hs := hide hs
  replace hck := hide hck
  cases four
  case true =>
    go_enter Tryd.func13, Tryd.ntmps13
    go_wp2_with (go_at_call 22; refine (Check_ok _ _ l _ hl hs.out hck.out).mono ?_; rintro e w1 ⟨rfl, he0⟩; have hz0 := he0.size; replace he0 := hide he0)
    have hB0 := hide (Blk.new w1 9 #[.string ⟨#[]⟩])
    go_loopw [18] (fun i wr => ∃ (k : Nat) (t : ByteArray), k ≤ l.length ∧ i = .int .i64 k ∧ Blk wr w1.heap.size 9 #[.string t] ∧ t.data.toList = pathB true (l.take k) ∧ Ext w wr) (fun i _ => l.length - (intOf i).toNat)
    case atStart => exact ⟨0, ⟨#[]⟩, Nat.zero_le _, rfl, hB0.out, rfl, he0.out.alloc _⟩
    case round =>
      obtain ⟨k, t, hk, rfl, hB, ht, hE⟩ := hrel
      have hsz := hB.lt
      replace hE := hide hE
      replace hB := hide hB
      have hts : t.size ≤ 16352 := by rw [size_list, ht]; have := segB_le true hck.out k hk; omega
      replace ht := hide ht
      by_cases hlt : k < l.length
      · obtain ⟨b1, o1, a1, c1, rfl, _, h0, h1, hm1, hs1, hk1, hk2⟩ := ESeg.at hs.out k hlt
        obtain ⟨g1, g2, g3, g4, _⟩ := chk_at hck.out k hlt
        have h0' := hE.out.cell h0
        have h1' := hE.out.cell h1
        replace hs1 := hide hs1
        clear h0 h1
        go_wp2_with (go_at_call 42; first
          | (refine (Put1_int w1.heap.size (put t 1 l[k].kind.toNat) _ _ 1 _ hB2.out rfl (by omega) (by omega) (by omega) (by omega) (by omega) (by rw [size_list, put_list, List.length_append, be_length, ← size_list]; omega)).mono ?_; rintro e w' ⟨rfl, w3, he3, rfl⟩; have hB3 := hide (hB2.out.put (u' := .string (put (put t 1 l[k].kind.toNat) 1 l[k].as.length)) he3); have e1 : w3.cell? ⟨wr.heap.size, 1, none⟩ = some (.slice a1 l[k].as.length c1) := ((hS2.out.far (p := ⟨w1.heap.size, 0, none⟩) (by simp; omega) (.string (put t 1 l[k].kind.toNat))).ext he3).cell 1; replace he3 := hide he3)
          | (refine (Put1_int w1.heap.size t _ _ 1 _ (hB.out.alloc _) rfl (by omega) (by omega) (by omega) (by omega) (by omega) (by omega)).mono ?_; rintro e w' ⟨rfl, w2, he2, rfl⟩; have hB2 := hide ((hB.out.alloc _).put (u' := .string (put t 1 l[k].kind.toNat)) he2)
             have hS2 := hide (((Blk.new wr 48 #[.int .i64 l[k].kind, .slice a1 l[k].as.length c1]).ext he2))
             have d1 : w2.cell? ⟨wr.heap.size, 1, none⟩ = some (.slice a1 l[k].as.length c1) := hS2.out.cell 1
             replace he2 := hide he2))
        have hE3 : Ext w (w3.setCell ⟨w1.heap.size, 0, none⟩ (.string (put (put t 1 l[k].kind.toNat) 1 l[k].as.length))) := ((((hE.out.alloc _).trans he2.out).setCell (by simpa using hz0) _).trans he3.out).setCell (by simpa using hz0) _
        replace hE3 := hide hE3
        have hgd : l[k].as.flatMap (asB true) = l[k].as.flatMap (asB true) := rfl
        go_loopw [36] (fun i wq => ∃ (j : Nat) (u : ByteArray), j ≤ l[k].as.length ∧ i = .int .i64 j ∧ Blk wq w1.heap.size 9 #[.string u] ∧ u.data.toList = pathB true (l.take k) ++ (be 1 l[k].kind.toNat ++ be 1 l[k].as.length ++ (l[k].as.take j).flatMap (asB true)) ∧ Ext w wq) (fun i _ => l[k].as.length - (intOf i).toNat)
        case atStart => exact ⟨0, _, Nat.zero_le _, rfl, hB3.out, by rw [put_list, put_list, ht.out]; simp, hE3.out⟩
        case round =>
          obtain ⟨j, u, hj, rfl, hBq, hu, hEq⟩ := hrel
          have hszq := hBq.lt
          have hus : u.size ≤ 33554432 := by
            have h1 := congrArg List.length hu
            have h2 := flatMap_le (asB true) 4 (asB_length true) (l[k].as.take j)
            have h3 := segB_le true hck.out k hk
            rw [size_list]
            simp only [List.length_append, be_length, List.length_take] at h1 h2
            omega
          replace hEq := hide hEq
          replace hBq := hide hBq
          replace hu := hide hu
          by_cases hltj : j < l[k].as.length
          · obtain ⟨b4, o4, rfl, _, q0⟩ := EU32.at (hs1.out.ext hEq.out) j hltj
            have hx := l[k].as[j].toNat_lt
            have hfs := flatMap_succ (asB true) l[k].as j hltj
            replace hfs := hide hfs
            have hasB : asB true l[k].as[j] = be 4 l[k].as[j].toNat := by unfold asB; simp 
            replace hasB := hide hasB
            go_wp2_with (go_at_call 42; refine (Put1_int w1.heap.size u _ _ 4 _ hBq.out rfl (by omega) (by omega) (by omega) (by omega) (by first | (simp; done) | (simp; omega)) hus).mono ?_; rintro e w' ⟨rfl, w4, he4, rfl⟩; have hB4 := hide (hBq.out.put (u' := .string (put u 4 l[k].as[j].toNat)) he4); replace he4 := hide he4)
            go_roundw
            case rel => exact ⟨j + 1, _, by omega, by go_num, hB4.out, by rw [put_list, hu.out, hfs.out, hasB.out]; simp, (hEq.out.trans he4.out).setCell (by simpa using hz0) _⟩
            case measure => simp [intOf]; omega
          · go_wp2
            have hjl : j = l[k].as.length := by omega
            have hu1 := hu.out
            rw [hjl, List.take_length] at hu1
            go_roundw
            case rel => exact ⟨k + 1, _, by omega, by go_num, hBq.out, by rw [pathB_succ _ _ _ hlt]; exact hu1, hEq.out⟩
            case measure => simp [intOf]; omega
      · have hkl : k = l.length := by omega
        have ht1 := ht.out
        rw [hkl, List.take_length] at ht1
        have c9 := hB.out.cell 0
        have hts : t = ⟨(pathB true l).toArray⟩ := by rw [← ht1]
        replace hts := hide hts
        replace ht1 := hide ht1
        simp only [List.getElem?_toArray, List.getElem?_cons_zero] at c9
        go_wp2
        go_ret2
        exact ⟨by rw [← hts.out]; rfl, hE.out⟩
  case false =>
    go_enter Tryd.func13, Tryd.ntmps13
    go_wp2_with (go_at_call 22; refine (Check_ok _ _ l _ hl hs.out hck.out).mono ?_; rintro e w1 ⟨rfl, he0⟩; have hz0 := he0.size; replace he0 := hide he0)
    have hB0 := hide (Blk.new w1 9 #[.string ⟨#[]⟩])
    go_loopw [18] (fun i wr => ∃ (k : Nat) (t : ByteArray), k ≤ l.length ∧ i = .int .i64 k ∧ Blk wr w1.heap.size 9 #[.string t] ∧ t.data.toList = pathB false (l.take k) ∧ Ext w wr) (fun i _ => l.length - (intOf i).toNat)
    case atStart => exact ⟨0, ⟨#[]⟩, Nat.zero_le _, rfl, hB0.out, rfl, he0.out.alloc _⟩
    case round =>
      obtain ⟨k, t, hk, rfl, hB, ht, hE⟩ := hrel
      have hsz := hB.lt
      replace hE := hide hE
      replace hB := hide hB
      have hts : t.size ≤ 16352 := by rw [size_list, ht]; have := segB_le false hck.out k hk; omega
      replace ht := hide ht
      by_cases hlt : k < l.length
      · obtain ⟨b1, o1, a1, c1, rfl, _, h0, h1, hm1, hs1, hk1, hk2⟩ := ESeg.at hs.out k hlt
        obtain ⟨g1, g2, g3, g4, _⟩ := chk_at hck.out k hlt
        have h0' := hE.out.cell h0
        have h1' := hE.out.cell h1
        replace hs1 := hide hs1
        clear h0 h1
        go_wp2_with (go_at_call 42; first
          | (refine (Put1_int w1.heap.size (put t 1 l[k].kind.toNat) _ _ 1 _ hB2.out rfl (by omega) (by omega) (by omega) (by omega) (by omega) (by rw [size_list, put_list, List.length_append, be_length, ← size_list]; omega)).mono ?_; rintro e w' ⟨rfl, w3, he3, rfl⟩; have hB3 := hide (hB2.out.put (u' := .string (put (put t 1 l[k].kind.toNat) 1 l[k].as.length)) he3); have e1 : w3.cell? ⟨wr.heap.size, 1, none⟩ = some (.slice a1 l[k].as.length c1) := ((hS2.out.far (p := ⟨w1.heap.size, 0, none⟩) (by simp; omega) (.string (put t 1 l[k].kind.toNat))).ext he3).cell 1; replace he3 := hide he3)
          | (refine (Put1_int w1.heap.size t _ _ 1 _ (hB.out.alloc _) rfl (by omega) (by omega) (by omega) (by omega) (by omega) (by omega)).mono ?_; rintro e w' ⟨rfl, w2, he2, rfl⟩; have hB2 := hide ((hB.out.alloc _).put (u' := .string (put t 1 l[k].kind.toNat)) he2)
             have hS2 := hide (((Blk.new wr 48 #[.int .i64 l[k].kind, .slice a1 l[k].as.length c1]).ext he2))
             have d1 : w2.cell? ⟨wr.heap.size, 1, none⟩ = some (.slice a1 l[k].as.length c1) := hS2.out.cell 1
             replace he2 := hide he2))
        have hE3 : Ext w (w3.setCell ⟨w1.heap.size, 0, none⟩ (.string (put (put t 1 l[k].kind.toNat) 1 l[k].as.length))) := ((((hE.out.alloc _).trans he2.out).setCell (by simpa using hz0) _).trans he3.out).setCell (by simpa using hz0) _
        replace hE3 := hide hE3
        have hgd : l[k].as.flatMap (asB false) = l[k].as.flatMap (asB false) := rfl
        go_loopw [36] (fun i wq => ∃ (j : Nat) (u : ByteArray), j ≤ l[k].as.length ∧ i = .int .i64 j ∧ Blk wq w1.heap.size 9 #[.string u] ∧ u.data.toList = pathB false (l.take k) ++ (be 1 l[k].kind.toNat ++ be 1 l[k].as.length ++ (l[k].as.take j).flatMap (asB false)) ∧ Ext w wq) (fun i _ => l[k].as.length - (intOf i).toNat)
        case atStart => exact ⟨0, _, Nat.zero_le _, rfl, hB3.out, by rw [put_list, put_list, ht.out]; simp, hE3.out⟩
        case round =>
          obtain ⟨j, u, hj, rfl, hBq, hu, hEq⟩ := hrel
          have hszq := hBq.lt
          have hus : u.size ≤ 33554432 := by
            have h1 := congrArg List.length hu
            have h2 := flatMap_le (asB false) 4 (asB_length false) (l[k].as.take j)
            have h3 := segB_le false hck.out k hk
            rw [size_list]
            simp only [List.length_append, be_length, List.length_take] at h1 h2
            omega
          replace hEq := hide hEq
          replace hBq := hide hBq
          replace hu := hide hu
          by_cases hltj : j < l[k].as.length
          · obtain ⟨b4, o4, rfl, _, q0⟩ := EU32.at (hs1.out.ext hEq.out) j hltj
            have hx := l[k].as[j].toNat_lt
            have hfs := flatMap_succ (asB false) l[k].as j hltj
            replace hfs := hide hfs
            by_cases hbig : 65535 < l[k].as[j].toNat
            · have hasB : asB false l[k].as[j] = be 2 23456 := by unfold asB; simp [hbig]
              replace hasB := hide hasB
              go_wp2_with (go_at_call 42; refine (Put1_int w1.heap.size u _ _ 2 _ hBq.out rfl (by omega) (by omega) (by omega) (by omega) (by first | (simp; done) | (simp; omega)) hus).mono ?_; rintro e w' ⟨rfl, w4, he4, rfl⟩; have hB4 := hide (hBq.out.put (u' := .string (put u 2 23456)) he4); replace he4 := hide he4)
              go_roundw
              case rel => exact ⟨j + 1, _, by omega, by go_num, hB4.out, by rw [put_list, hu.out, hfs.out, hasB.out]; simp, (hEq.out.trans he4.out).setCell (by simpa using hz0) _⟩
              case measure => simp [intOf]; omega
            · have hasB : asB false l[k].as[j] = be 2 l[k].as[j].toNat := by unfold asB; simp [hbig]
              replace hasB := hide hasB
              go_wp2_with (go_at_call 42; refine (Put1_int w1.heap.size u _ _ 2 _ hBq.out rfl (by omega) (by omega) (by omega) (by omega) (by first | (simp; done) | (simp; omega)) hus).mono ?_; rintro e w' ⟨rfl, w4, he4, rfl⟩; have hB4 := hide (hBq.out.put (u' := .string (put u 2 l[k].as[j].toNat)) he4); replace he4 := hide he4)
              go_roundw
              case rel => exact ⟨j + 1, _, by omega, by go_num, hB4.out, by rw [put_list, hu.out, hfs.out, hasB.out]; simp, (hEq.out.trans he4.out).setCell (by simpa using hz0) _⟩
              case measure => simp [intOf]; omega
          · go_wp2
            have hjl : j = l[k].as.length := by omega
            have hu1 := hu.out
            rw [hjl, List.take_length] at hu1
            go_roundw
            case rel => exact ⟨k + 1, _, by omega, by go_num, hBq.out, by rw [pathB_succ _ _ _ hlt]; exact hu1, hEq.out⟩
            case measure => simp [intOf]; omega
      · have hkl : k = l.length := by omega
        have ht1 := ht.out
        rw [hkl, List.take_length] at ht1
        have c9 := hB.out.cell 0
        have hts : t = ⟨(pathB false l).toArray⟩ := by rw [← ht1]
        replace hts := hide hts
        replace ht1 := hide ht1
        simp only [List.getElem?_toArray, List.getElem?_cons_zero] at c9
        go_wp2
        go_ret2
        exact ⟨by rw [← hts.out]; rfl, hE.out⟩

theorem AEncode_no (a : Option Addr) (c : Nat) (l : List Seg) (four : Bool) (w : World) (hl : l.length ≤ 16777216) (hs : Path w a l) (hck : chk l = false) :
    Calls Tryd.prog 13 #[.slice a l.length c, .bool four] w fun e w' => e = .returned (.tuple #[.string ⟨#[]⟩, .int .i64 2]) ∧ Ext w w' := by
  replace hs := hide hs
  replace hck := hide hck
  go_enter Tryd.func13, Tryd.ntmps13
  go_wp2_with (go_at_call 22; refine (Check_no _ _ l _ hl hs.out hck.out).mono ?_; rintro e w1 ⟨rfl, he0⟩; replace he0 := hide he0)
  go_ret2
  exact ⟨rfl, he0.out⟩
/-- What a path is as bytes, or the error. -/
def encS (l : List Seg) (four : Bool) : ByteArray := if chk l then ⟨(pathB four l).toArray⟩ else ⟨#[]⟩
theorem AEncode_any (a : Option Addr) (c : Nat) (l : List Seg) (four : Bool) (w : World) (hl : l.length ≤ 16777216) (hs : Path w a l) :
    Calls Tryd.prog 13 #[.slice a l.length c, .bool four] w fun e w' => e = .returned (.tuple #[.string (encS l four), .int .i64 (errOf (chk l))]) ∧ Ext w w' := by
  cases h : chk l
  · have := AEncode_no a c l four w hl hs h
    simpa [encS, errOf, h] using this
  · have := AEncode_ok a c l four w hl hs h
    simpa [encS, errOf, h] using this
end Go.Proofs.YtiappobhljiknaaDoor
