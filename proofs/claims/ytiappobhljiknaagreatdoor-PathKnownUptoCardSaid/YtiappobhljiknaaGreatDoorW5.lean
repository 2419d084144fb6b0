/- Walks: a number is put behind bytes: wire.Put, and the document's. Walks: a path as bytes: aspath.Encode, and the document's. Walks: the document's Check and Encode. Walks: aspath.Text. Walks: the document's Text. Walks: the law's own helpers; works. Walks: the first AS, who is in a path, all ASs, the path without the confederation's. -/
import Derived.Test.YtiappobhljiknaaGreatDoorW1
import Derived.Test.YtiappobhljiknaaGreatDoorWP
import Derived.Test.YtiappobhljiknaaGreatDoorBytes
import Derived.Test.YtiappobhljiknaaGreatDoorA4
namespace Go.Proofs.YtiappobhljiknaaGreatDoor
open Go.RowKit
set_option linter.unusedVariables false
set_option maxHeartbeats 1000000 in
/-- The closure of aspath.Encode: puts a number behind the captured text. -/
theorem Put1_any (g : Nat) (s : ByteArray) (v n : Nat) (w : World) (hb : Blk w g 9 #[.string s]) (h1 : 1 ≤ n) (h8 : n ≤ 8) (hv : v < 18446744073709551616) (hvn : v < 2 ^ (8 * n)) (hs : s.size ≤ 33554432) :
    Calls Tryz.prog 42 #[.int .u64 v, .int .i64 n, .pointer (some ⟨g, 0, none⟩)] w fun e w' => e = .returned (.tuple #[]) ∧ ∃ w1, Ext w w1 ∧ w' = w1.setCell ⟨g, 0, none⟩ (.string (put s n v)) := by
  have c0 := hb.cell 0
  simp only [List.getElem?_toArray, List.getElem?_cons_zero] at c0
  go_enter Tryz.func42, Tryz.ntmps42
  go_wp2_with (go_at_call 43; refine (WPut_any s v n _ h1 h8 hv hvn hs).mono ?_; rintro e w1 ⟨rfl, he⟩; have c1 := (hb.ext he).cell 0; have c2 := (hb.ext he).frozen 0; simp only [List.getElem?_toArray, List.getElem?_cons_zero] at c1; replace he := hide he)
  go_end0
  exact ⟨rfl, w1, he.out, rfl⟩

theorem Put1_int (g : Nat) (s : ByteArray) (v n : Int) (m : Nat) (w : World) (hb : Blk w g 9 #[.string s]) (hn : n = m) (h1 : 1 ≤ m) (h8 : m ≤ 8) (h0 : 0 ≤ v) (hv : v < 18446744073709551616) (hvn : v.toNat < 2 ^ (8 * m)) (hs : s.size ≤ 33554432) :
    Calls Tryz.prog 42 #[.int .u64 v, .int .i64 n, .pointer (some ⟨g, 0, none⟩)] w fun e w' => e = .returned (.tuple #[]) ∧ ∃ w1, Ext w w1 ∧ w' = w1.setCell ⟨g, 0, none⟩ (.string (put s m v.toNat)) := by
  subst hn
  obtain ⟨u, rfl⟩ := Int.eq_ofNat_of_zero_le h0
  exact Put1_any g s u m w hb h1 h8 (by omega) (by simpa using hvn) hs
theorem Blk.put {w w1 : World} {g : Nat} {t : TypeId} {u u' : Value} (h : Blk w g t #[u]) (he : Ext w w1) : Blk (w1.setCell ⟨g, 0, none⟩ u') g t #[u'] := by
  have := (h.ext he).set_ 0 u'
  simpa using this
theorem put_list (s : ByteArray) (n v : Nat) : (put s n v).data.toList = s.data.toList ++ be n v := rfl
theorem size_list (s : ByteArray) : s.size = s.data.toList.length := by simp

set_option maxRecDepth 20000 in
set_option maxHeartbeats 2000000 in
theorem AEncode_ok (a : Option Addr) (c : Nat) (l : List Seg) (four : Bool) (w : World) (hl : l.length ≤ 16777216) (hs : Path w a l) (hck : chk l = true) :
    Calls Tryz.prog 15 #[.slice a l.length c, .bool four] w fun e w' => e = .returned (.tuple #[.string ⟨(pathB four l).toArray⟩, .int .i64 0]) ∧ Ext w w' := by
  replace hs := hide hs
  replace hck := hide hck
  cases four
  case true =>
    go_enter Tryz.func15, Tryz.ntmps15
    go_wp2_with (go_at_call 17; refine (Check_ok _ _ l _ hl hs.out hck.out).mono ?_; rintro e w1 ⟨rfl, he0⟩; have hz0 := he0.size; replace he0 := hide he0)
    have hB0 := hide (Blk.new w1 9 #[.string ⟨#[]⟩])
    go_loopw [18] (fun i wr => ∃ (k : Nat) (t : ByteArray), k ≤ l.length ∧ i = .int .i64 k ∧ Blk wr w1.heap.size 9 #[.string t] ∧ t.data.toList = pathB true (l.take k) ∧ Ext w wr) (fun i _ => l.length - (intOf i).toNat)
    case atStart => exact ⟨0, ⟨#[]⟩, Nat.zero_le _, rfl, hB0.out, rfl, he0.out.alloc _⟩
    case round =>
      obtain ⟨k, t, hk, rfl, hB, ht, hE⟩ := hrel
      have hsz := hB.lt
      replace hE := hide hE
      replace hB := hide hB
      have hts : t.size ≤ 16352 := by rw [size_list, ht]; have := segB_le true hck.out k hk; omega
      replace ht := hide ht
      by_cases hlt : k < l.length
      · obtain ⟨b1, o1, a1, c1, rfl, _, h0, h1, hm1, hs1, hk1, hk2⟩ := ESeg.at hs.out k hlt
        obtain ⟨g1, g2, g3, g4, _⟩ := chk_at hck.out k hlt
        have h0' := hE.out.cell h0
        have h1' := hE.out.cell h1
        replace hs1 := hide hs1
        clear h0 h1
        go_wp2_with (go_at_call 42; first
          | (refine (Put1_int w1.heap.size (put t 1 l[k].kind.toNat) _ _ 1 _ hB2.out rfl (by omega) (by omega) (by omega) (by omega) (by omega) (by rw [size_list, put_list, List.length_append, be_length, ← size_list]; omega)).mono ?_; rintro e w' ⟨rfl, w3, he3, rfl⟩; have hB3 := hide (hB2.out.put (u' := .string (put (put t 1 l[k].kind.toNat) 1 l[k].as.length)) he3); have e1 : w3.cell? ⟨wr.heap.size, 1, none⟩ = some (.slice a1 l[k].as.length c1) := ((hS2.out.far (p := ⟨w1.heap.size, 0, none⟩) (by simp; omega) (.string (put t 1 l[k].kind.toNat))).ext he3).cell 1; replace he3 := hide he3)
          | (refine (Put1_int w1.heap.size t _ _ 1 _ (hB.out.alloc _) rfl (by omega) (by omega) (by omega) (by omega) (by omega) (by omega)).mono ?_; rintro e w' ⟨rfl, w2, he2, rfl⟩; have hB2 := hide ((hB.out.alloc _).put (u' := .string (put t 1 l[k].kind.toNat)) he2)
             have hS2 := hide (((Blk.new wr 24 #[.int .i64 l[k].kind, .slice a1 l[k].as.length c1]).ext he2))
             have d1 : w2.cell? ⟨wr.heap.size, 1, none⟩ = some (.slice a1 l[k].as.length c1) := hS2.out.cell 1
             replace he2 := hide he2))
        have hE3 : Ext w (w3.setCell ⟨w1.heap.size, 0, none⟩ (.string (put (put t 1 l[k].kind.toNat) 1 l[k].as.length))) := ((((hE.out.alloc _).trans he2.out).setCell (by simpa using hz0) _).trans he3.out).setCell (by simpa using hz0) _
        replace hE3 := hide hE3
        have hgd : l[k].as.flatMap (asB true) = l[k].as.flatMap (asB true) := rfl
        go_loopw [36] (fun i wq => ∃ (j : Nat) (u : ByteArray), j ≤ l[k].as.length ∧ i = .int .i64 j ∧ Blk wq w1.heap.size 9 #[.string u] ∧ u.data.toList = pathB true (l.take k) ++ (be 1 l[k].kind.toNat ++ be 1 l[k].as.length ++ (l[k].as.take j).flatMap (asB true)) ∧ Ext w wq) (fun i _ => l[k].as.length - (intOf i).toNat)
        case atStart => exact ⟨0, _, Nat.zero_le _, rfl, hB3.out, by rw [put_list, put_list, ht.out]; simp, hE3.out⟩
        case round =>
          obtain ⟨j, u, hj, rfl, hBq, hu, hEq⟩ := hrel
          have hszq := hBq.lt
          have hus : u.size ≤ 33554432 := by
            have h1 := congrArg List.length hu
            have h2 := flatMap_le (asB true) 4 (asB_length true) (l[k].as.take j)
            have h3 := segB_le true hck.out k hk
            rw [size_list]
            simp only [List.length_append, be_length, List.length_take] at h1 h2
            omega
          replace hEq := hide hEq
          replace hBq := hide hBq
          replace hu := hide hu
          by_cases hltj : j < l[k].as.length
          · obtain ⟨b4, o4, rfl, _, q0⟩ := EU32.at (hs1.out.ext hEq.out) j hltj
            have hx := l[k].as[j].toNat_lt
            have hfs := flatMap_succ (asB true) l[k].as j hltj
            replace hfs := hide hfs
            have hasB : asB true l[k].as[j] = be 4 l[k].as[j].toNat := by unfold asB; simp 
            replace hasB := hide hasB
            go_wp2_with (go_at_call 42; refine (Put1_int w1.heap.size u _ _ 4 _ hBq.out rfl (by omega) (by omega) (by omega) (by omega) (by first | (simp; done) | (simp; omega)) hus).mono ?_; rintro e w' ⟨rfl, w4, he4, rfl⟩; have hB4 := hide (hBq.out.put (u' := .string (put u 4 l[k].as[j].toNat)) he4); replace he4 := hide he4)
            go_roundw
            case rel => exact ⟨j + 1, _, by omega, by go_num, hB4.out, by rw [put_list, hu.out, hfs.out, hasB.out]; simp, (hEq.out.trans he4.out).setCell (by simpa using hz0) _⟩
            case measure => simp [intOf]; omega
          · go_wp2
            have hjl : j = l[k].as.length := by omega
            have hu1 := hu.out
            rw [hjl, List.take_length] at hu1
            go_roundw
            case rel => exact ⟨k + 1, _, by omega, by go_num, hBq.out, by rw [pathB_succ _ _ _ hlt]; exact hu1, hEq.out⟩
            case measure => simp [intOf]; omega
      · have hkl : k = l.length := by omega
        have ht1 := ht.out
        rw [hkl, List.take_length] at ht1
        have c9 := hB.out.cell 0
        have hts : t = ⟨(pathB true l).toArray⟩ := by rw [← ht1]
        replace hts := hide hts
        replace ht1 := hide ht1
        simp only [List.getElem?_toArray, List.getElem?_cons_zero] at c9
        go_wp2
        go_ret2
        exact ⟨by rw [← hts.out]; rfl, hE.out⟩
  case false =>
    go_enter Tryz.func15, Tryz.ntmps15
    go_wp2_with (go_at_call 17; refine (Check_ok _ _ l _ hl hs.out hck.out).mono ?_; rintro e w1 ⟨rfl, he0⟩; have hz0 := he0.size; replace he0 := hide he0)
    have hB0 := hide (Blk.new w1 9 #[.string ⟨#[]⟩])
    go_loopw [18] (fun i wr => ∃ (k : Nat) (t : ByteArray), k ≤ l.length ∧ i = .int .i64 k ∧ Blk wr w1.heap.size 9 #[.string t] ∧ t.data.toList = pathB false (l.take k) ∧ Ext w wr) (fun i _ => l.length - (intOf i).toNat)
    case atStart => exact ⟨0, ⟨#[]⟩, Nat.zero_le _, rfl, hB0.out, rfl, he0.out.alloc _⟩
    case round =>
      obtain ⟨k, t, hk, rfl, hB, ht, hE⟩ := hrel
      have hsz := hB.lt
      replace hE := hide hE
      replace hB := hide hB
      have hts : t.size ≤ 16352 := by rw [size_list, ht]; have := segB_le false hck.out k hk; omega
      replace ht := hide ht
      by_cases hlt : k < l.length
      · obtain ⟨b1, o1, a1, c1, rfl, _, h0, h1, hm1, hs1, hk1, hk2⟩ := ESeg.at hs.out k hlt
        obtain ⟨g1, g2, g3, g4, _⟩ := chk_at hck.out k hlt
        have h0' := hE.out.cell h0
        have h1' := hE.out.cell h1
        replace hs1 := hide hs1
        clear h0 h1
        go_wp2_with (go_at_call 42; first
          | (refine (Put1_int w1.heap.size (put t 1 l[k].kind.toNat) _ _ 1 _ hB2.out rfl (by omega) (by omega) (by omega) (by omega) (by omega) (by rw [size_list, put_list, List.length_append, be_length, ← size_list]; omega)).mono ?_; rintro e w' ⟨rfl, w3, he3, rfl⟩; have hB3 := hide (hB2.out.put (u' := .string (put (put t 1 l[k].kind.toNat) 1 l[k].as.length)) he3); have e1 : w3.cell? ⟨wr.heap.size, 1, none⟩ = some (.slice a1 l[k].as.length c1) := ((hS2.out.far (p := ⟨w1.heap.size, 0, none⟩) (by simp; omega) (.string (put t 1 l[k].kind.toNat))).ext he3).cell 1; replace he3 := hide he3)
          | (refine (Put1_int w1.heap.size t _ _ 1 _ (hB.out.alloc _) rfl (by omega) (by omega) (by omega) (by omega) (by omega) (by omega)).mono ?_; rintro e w' ⟨rfl, w2, he2, rfl⟩; have hB2 := hide ((hB.out.alloc _).put (u' := .string (put t 1 l[k].kind.toNat)) he2)
             have hS2 := hide (((Blk.new wr 24 #[.int .i64 l[k].kind, .slice a1 l[k].as.length c1]).ext he2))
             have d1 : w2.cell? ⟨wr.heap.size, 1, none⟩ = some (.slice a1 l[k].as.length c1) := hS2.out.cell 1
             replace he2 := hide he2))
        have hE3 : Ext w (w3.setCell ⟨w1.heap.size, 0, none⟩ (.string (put (put t 1 l[k].kind.toNat) 1 l[k].as.length))) := ((((hE.out.alloc _).trans he2.out).setCell (by simpa using hz0) _).trans he3.out).setCell (by simpa using hz0) _
        replace hE3 := hide hE3
        have hgd : l[k].as.flatMap (asB false) = l[k].as.flatMap (asB false) := rfl
        go_loopw [36] (fun i wq => ∃ (j : Nat) (u : ByteArray), j ≤ l[k].as.length ∧ i = .int .i64 j ∧ Blk wq w1.heap.size 9 #[.string u] ∧ u.data.toList = pathB false (l.take k) ++ (be 1 l[k].kind.toNat ++ be 1 l[k].as.length ++ (l[k].as.take j).flatMap (asB false)) ∧ Ext w wq) (fun i _ => l[k].as.length - (intOf i).toNat)
        case atStart => exact ⟨0, _, Nat.zero_le _, rfl, hB3.out, by rw [put_list, put_list, ht.out]; simp, hE3.out⟩
        case round =>
          obtain ⟨j, u, hj, rfl, hBq, hu, hEq⟩ := hrel
          have hszq := hBq.lt
          have hus : u.size ≤ 33554432 := by
            have h1 := congrArg List.length hu
            have h2 := flatMap_le (asB false) 4 (asB_length false) (l[k].as.take j)
            have h3 := segB_le false hck.out k hk
            rw [size_list]
            simp only [List.length_append, be_length, List.length_take] at h1 h2
            omega
          replace hEq := hide hEq
          replace hBq := hide hBq
          replace hu := hide hu
          by_cases hltj : j < l[k].as.length
          · obtain ⟨b4, o4, rfl, _, q0⟩ := EU32.at (hs1.out.ext hEq.out) j hltj
            have hx := l[k].as[j].toNat_lt
            have hfs := flatMap_succ (asB false) l[k].as j hltj
            replace hfs := hide hfs
            by_cases hbig : 65535 < l[k].as[j].toNat
            · have hasB : asB false l[k].as[j] = be 2 23456 := by unfold asB; simp [hbig]
              replace hasB := hide hasB
              go_wp2_with (go_at_call 42; refine (Put1_int w1.heap.size u _ _ 2 _ hBq.out rfl (by omega) (by omega) (by omega) (by omega) (by first | (simp; done) | (simp; omega)) hus).mono ?_; rintro e w' ⟨rfl, w4, he4, rfl⟩; have hB4 := hide (hBq.out.put (u' := .string (put u 2 23456)) he4); replace he4 := hide he4)
              go_roundw
              case rel => exact ⟨j + 1, _, by omega, by go_num, hB4.out, by rw [put_list, hu.out, hfs.out, hasB.out]; simp, (hEq.out.trans he4.out).setCell (by simpa using hz0) _⟩
              case measure => simp [intOf]; omega
            · have hasB : asB false l[k].as[j] = be 2 l[k].as[j].toNat := by unfold asB; simp [hbig]
              replace hasB := hide hasB
              go_wp2_with (go_at_call 42; refine (Put1_int w1.heap.size u _ _ 2 _ hBq.out rfl (by omega) (by omega) (by omega) (by omega) (by first | (simp; done) | (simp; omega)) hus).mono ?_; rintro e w' ⟨rfl, w4, he4, rfl⟩; have hB4 := hide (hBq.out.put (u' := .string (put u 2 l[k].as[j].toNat)) he4); replace he4 := hide he4)
              go_roundw
              case rel => exact ⟨j + 1, _, by omega, by go_num, hB4.out, by rw [put_list, hu.out, hfs.out, hasB.out]; simp, (hEq.out.trans he4.out).setCell (by simpa using hz0) _⟩
              case measure => simp [intOf]; omega
          · go_wp2
            have hjl : j = l[k].as.length := by omega
            have hu1 := hu.out
            rw [hjl, List.take_length] at hu1
            go_roundw
            case rel => exact ⟨k + 1, _, by omega, by go_num, hBq.out, by rw [pathB_succ _ _ _ hlt]; exact hu1, hEq.out⟩
            case measure => simp [intOf]; omega
      · have hkl : k = l.length := by omega
        have ht1 := ht.out
        rw [hkl, List.take_length] at ht1
        have c9 := hB.out.cell 0
        have hts : t = ⟨(pathB false l).toArray⟩ := by rw [← ht1]
        replace hts := hide hts
        replace ht1 := hide ht1
        simp only [List.getElem?_toArray, List.getElem?_cons_zero] at c9
        go_wp2
        go_ret2
        exact ⟨by rw [← hts.out]; rfl, hE.out⟩

theorem AEncode_no (a : Option Addr) (c : Nat) (l : List Seg) (four : Bool) (w : World) (hl : l.length ≤ 16777216) (hs : Path w a l) (hck : chk l = false) :
    Calls Tryz.prog 15 #[.slice a l.length c, .bool four] w fun e w' => e = .returned (.tuple #[.string ⟨#[]⟩, .int .i64 2]) ∧ Ext w w' := by
  replace hs := hide hs
  replace hck := hide hck
  go_enter Tryz.func15, Tryz.ntmps15
  go_wp2_with (go_at_call 17; refine (Check_no _ _ l _ hl hs.out hck.out).mono ?_; rintro e w1 ⟨rfl, he0⟩; replace he0 := hide he0)
  go_ret2
  exact ⟨rfl, he0.out⟩
/-- What a path is as bytes, or the error. -/
def encS (l : List Seg) (four : Bool) : ByteArray := if chk l then ⟨(pathB four l).toArray⟩ else ⟨#[]⟩
theorem AEncode_any (a : Option Addr) (c : Nat) (l : List Seg) (four : Bool) (w : World) (hl : l.length ≤ 16777216) (hs : Path w a l) :
    Calls Tryz.prog 15 #[.slice a l.length c, .bool four] w fun e w' => e = .returned (.tuple #[.string (encS l four), .int .i64 (errOf (chk l))]) ∧ Ext w w' := by
  cases h : chk l
  · have := AEncode_no a c l four w hl hs h
    simpa [encS, errOf, h] using this
  · have := AEncode_ok a c l four w hl hs h
    simpa [encS, errOf, h] using this

theorem okStr4 : ElemOk Tryz.prog 38 9 EStr.sz 16 := elemOk (z := .string ⟨#[]⟩) Tryz.underlying38 (by kernel_rfl) rfl
def brkV : Value := .agg #[.string ⟨#[]⟩, .string ⟨#[123, 125]⟩, .string ⟨#[60, 62]⟩, .string ⟨#[40, 41]⟩, .string ⟨#[91, 93]⟩]

theorem brackets_any (w : World) : Calls Tryz.prog 32 #[] w fun e w' => e = .returned brkV ∧ Ext w w' := by
  go_enter Tryz.func32, Tryz.ntmps32
  go_wp2
  exact bodyPost_ret (v := brkV) (by simp [results, Tryz.results32, go_sem, brkV]) rfl ⟨rfl, (Ext.refl _).alloc _⟩

def joinB (xs : List ByteArray) : ByteArray := ⟨(Lib.join (xs.map (·.data.toList)) [32]).toArray⟩
theorem joinB_size (xs : List ByteArray) : (joinB xs).size = (Lib.join (xs.map (·.data.toList)) [32]).length := by rw [joinB]; rfl
def opB (k : Int) : ByteArray := ⟨#[opn k]⟩
def clB (k : Int) : ByteArray := ⟨#[cls k]⟩
/-- strings.Join at a slice of texts, with a blank between. -/
theorem Join4_any (a : Option Addr) (c : Nat) (xs : List ByteArray) (w : World) (S : Nat → Prop) (hS : ∀ b, S b → b < w.heap.size) (hs : Sl EStr w S a xs) (hc : xs.length ≤ c) (hl : xs.length ≤ 16777216) (hlen : (Lib.join (xs.map (·.data.toList)) [32]).length ≤ 140737488355328) :
    Calls Tryz.prog 41 #[.slice a xs.length c, .string ⟨#[32]⟩] w fun e w' => e = .returned (.string (joinB xs)) ∧ Ext w w' := by
  rcases hs with rfl | ⟨b, off, rfl, hb, h⟩
  · exact (Tryz.strings_Join_none a c ⟨#[32]⟩ w).mono fun e w' ⟨h1, h2⟩ => by subst h1; subst h2; exact ⟨rfl, Ext.refl _⟩
  · refine Tryz.strings_Join b off c xs ⟨#[32]⟩ w (fun j x hx => ?_) (hS b hb) (by omega) hc hlen
    obtain ⟨cs, ⟨rfl, _⟩, hc⟩ := h j x hx
    have := hc 0 _ rfl
    simpa [EStr, Enc.flat] using this

def brk (k : Int) : ByteArray := ⟨#[opn k, cls k]⟩
theorem brk_at (k : Int) (h1 : 1 ≤ k) (h2 : k ≤ 4) : (#[Value.string ⟨#[]⟩, .string ⟨#[123, 125]⟩, .string ⟨#[60, 62]⟩, .string ⟨#[40, 41]⟩, .string ⟨#[91, 93]⟩] : Array Value)[k.toNat]? = some (.string (brk k)) := by
  have : k = 1 ∨ k = 2 ∨ k = 3 ∨ k = 4 := by omega
  rcases this with rfl | rfl | rfl | rfl <;> rfl

def decB (a : UInt32) : ByteArray := dec a.toNat
def segTB (s : Seg) : ByteArray := ⟨(segT s).toArray⟩
theorem decB_map (l : List UInt32) : (l.map decB).map (·.data.toList) = l.map asT := by
  simp [List.map_map, Function.comp_def, decB, dec, asT]
theorem segTB_map (l : List Seg) : (l.map segTB).map (·.data.toList) = l.map segT := by
  simp [List.map_map, Function.comp_def, segTB]
theorem decB_size (a : UInt32) : (decB a).size ≤ 20 := by
  have := asT_le a
  rw [size_list]; exact this
theorem map_take_succ {α β : Type} (f : α → β) (l : List α) (k : Nat) (hk : k < l.length) : (l.take (k + 1)).map f = (l.take k).map f ++ [f l[k]] := by
  rw [List.take_succ_eq_append_getElem hk, List.map_append]; rfl
theorem str_new (w : World) (s : ByteArray) (t : TypeId) : ∀ j u, [Value.string s][j]? = some u → (w.alloc (.cells #[.string s] t)).cell? ((⟨w.heap.size, 0, none⟩ : Addr).add j) = some u := cell_one_new w _ t

theorem ba_ext {a b : ByteArray} (h : a.data.toList = b.data.toList) : a = b := by
  cases a; cases b; simp only [ByteArray.mk.injEq]; exact Array.toList_inj.1 h
theorem seg_text (s : Seg) : opB s.kind ++ joinB (s.as.map decB) ++ clB s.kind = segTB s := by
  apply ba_ext
  simp only [ByteArray.data_append, Array.toList_append, opB, clB, joinB, segTB, segT, decB_map]
  simp
theorem path_text (l : List Seg) : joinB (l.map segTB) = ⟨(pathT l).toArray⟩ := by
  rw [joinB, segTB_map]; rfl

set_option maxRecDepth 20000 in
set_option maxHeartbeats 4000000 in
theorem AText_ok (a : Option Addr) (c : Nat) (l : List Seg) (w : World) (hl : l.length ≤ 16777216) (hs : Path w a l) (htab : Tab w) (hck : chk l = true) (hne : 0 < l.length) :
    Calls Tryz.prog 14 #[.slice a l.length c] w fun e w' => e = .returned (.tuple #[.string ⟨(pathT l).toArray⟩, .int .i64 0]) ∧ Ext w w' := by
  replace hs := hide hs
  replace hck := hide hck
  replace htab := hide htab
  have hlen := chk_len hck.out
  have e0 : ((l.length : Int) == 0) = false := by rw [beq_eq_false_iff_ne]; omega
  go_enter Tryz.func14, Tryz.ntmps14
  go_wp2_with (first
    | (go_at_call 17; refine (Check_ok _ _ l _ hl hs.out hck.out).mono ?_; rintro e w1 ⟨rfl, he1⟩; replace he1 := hide he1)
    | (go_at_call 32; refine (brackets_any _).mono ?_; rintro e w2 ⟨rfl, he2⟩; unfold brkV; replace he2 := hide he2))
  generalize hW : w2.alloc (Obj.cells #[Value.string { data := #[] }, Value.string { data := #[123, 125] }, Value.string { data := #[60, 62] }, Value.string { data := #[40, 41] }, Value.string { data := #[91, 93] }] 61) = W
  have hE0 : Ext w W := by rw [← hW]; exact (he1.out.trans he2.out).alloc _
  have hBk : Blk W w2.heap.size 61 #[Value.string { data := #[] }, Value.string { data := #[123, 125] }, Value.string { data := #[60, 62] }, Value.string { data := #[40, 41] }, Value.string { data := #[91, 93] }] := by rw [← hW]; exact Blk.new _ _ _
  replace hE0 := hide hE0
  replace hBk := hide hBk
  clear hW
  go_loopw [5, 21] (fun v i wr => ∃ k : Nat, k ≤ l.length ∧ i = .int .i64 k ∧ Own EStr 9 wr W.heap.size v ((l.take k).map segTB) ∧ Ext W wr) (fun _ i _ => l.length - (intOf i).toNat)
  case atStart => exact ⟨0, Nat.zero_le _, rfl, by simpa using Own.nil, Ext.refl _⟩
  case round =>
    obtain ⟨k, hk, rfl, hown, hE⟩ := hrel
    have hsz := hE.size
    replace hE := hide hE
    replace hown := hide hown
    by_cases hlt : k < l.length
    · obtain ⟨b1, o1, a1, c1, rfl, _, h0, h1, hm1, hs1, hk1, hk2⟩ := ESeg.at (hs.out.ext (hE0.out.trans hE.out)) k hlt
      obtain ⟨g1, g2, g3, g4, _⟩ := chk_at hck.out k hlt
      replace hs1 := hide hs1
      go_wp2
      generalize hW1 : wr.alloc (Obj.cells #[Value.int IntKind.i64 l[k].kind, Value.slice a1 l[k].as.length c1] 24) = W1
      have hE1 : Ext wr W1 := by rw [← hW1]; exact (Ext.refl _).alloc _
      have hB1 : Blk W1 wr.heap.size 24 #[Value.int IntKind.i64 l[k].kind, Value.slice a1 l[k].as.length c1] := by rw [← hW1]; exact Blk.new _ _ _
      have hsz1 := hE1.size
      replace hE1 := hide hE1
      replace hB1 := hide hB1
      clear hW1
      go_loopw [8, 28] (fun v i wq => ∃ j : Nat, j ≤ l[k].as.length ∧ i = .int .i64 j ∧ Own EStr 9 wq W1.heap.size v ((l[k].as.take j).map decB) ∧ Ext W1 wq) (fun _ i _ => l[k].as.length - (intOf i).toNat)
      case atStart => exact ⟨0, Nat.zero_le _, rfl, by simpa using Own.nil, Ext.refl _⟩
      case round =>
        obtain ⟨j, hj, rfl, hownj, hEj⟩ := hrel
        have hszj := hEj.size
        replace hEj := hide hEj
        replace hownj := hide hownj
        by_cases hltj : j < l[k].as.length
        · obtain ⟨b4, o4, rfl, _, q0⟩ := EU32.at (hs1.out.ext (hE1.out.trans hEj.out)) j hltj
          have hx := l[k].as[j].toNat_lt
          go_wp2_with (first
            | (go_at_call 40; refine (FormatUint_any l[k].as[j].toNat (by omega) _ (htab.out.ext (((hE0.out.trans hE.out).trans hE1.out).trans hEj.out))).mono ?_; rintro e w4 ⟨rfl, he4⟩; have hsz4 := he4.size; replace he4 := hide he4)
            | (at_builtin
               have hox := (hownj.out.ext he4.out).alloc (Obj.cells #[.string (dec l[k].as[j].toNat)] 9)
               refine wpList_push (E := EStr) rfl _ _ _ rfl okStr4 (by decide) (by decide) rfl hox (by simp; omega) (by simp; omega) rfl (y := decB l[k].as[j]) (cs := [.string (dec l[k].as[j].toNat)]) ⟨rfl, by have := decB_size l[k].as[j]; unfold maxLen; omega⟩ (str_new _ _ _) ?_
               intro v' w5 hown5 hg5 hat5))
          go_roundw
          case rel => exact ⟨j + 1, by omega, by go_num, by rw [map_take_succ decB _ _ hltj]; exact hown5, ((hEj.out.trans he4.out).alloc _).push (fun b hb => (hownj.out.lt b hb).1) hg5⟩
          case measure => simp [intOf]; omega
        · have hjl : j = l[k].as.length := by omega
          have hoj := hownj.out
          rw [hjl, List.take_length] at hoj
          obtain ⟨b5, d5, rfl, hd5, hsl5⟩ := hoj.slc
          simp only [List.length_map] at hd5
          replace hsl5 := hide hsl5
          have c0 := (hB1.out.ext hEj.out).cell 0
          have cA := ((hBk.out.ext hE.out).ext hE1.out).ext hEj.out
          have cK := (cA.cell l[k].kind.toNat).trans (brk_at l[k].kind g1 g2)
          replace cA := hide cA
          go_wp2
          have hx1 : ∀ V, (Instr.slice 9 (.string (brk l[k].kind)) none (some (.int .i64 1)) none).run Tryz.prog V = .ok (.string (opB l[k].kind)) V := fun V => by kernel_rfl
          have hx2 : ∀ V, (Instr.slice 9 (.string (brk l[k].kind)) (some (.int .i64 1)) none none).run Tryz.prog V = .ok (.string (clB l[k].kind)) V := fun V => by kernel_rfl
          have hjl : (Lib.join (((l[k].as.map decB).map (·.data.toList))) [32]).length ≤ 5355 := by rw [decB_map]; have := joinAs_le l[k].as; omega
          have hjs : (joinB (l[k].as.map decB)).size ≤ 5355 := by rw [joinB_size]; exact hjl
          have hos : (opB l[k].kind).size ≤ 1 := Nat.le_refl _
          have hcs : (clB l[k].kind).size ≤ 1 := Nat.le_refl _
          have hA1 : ¬ 9223372036854775807 < (opB l[k].kind).size + (joinB (l[k].as.map decB)).size := by omega
          have hA2 : ¬ 9223372036854775807 < (opB l[k].kind).size + (joinB (l[k].as.map decB)).size + (clB l[k].kind).size := by omega
          replace hjl := hide hjl
          have hlm : (l[k].as.map decB).length ≤ 255 := by simpa using g4
          have hownW := (((hown.out.ext hE1.out).ext hEj.out))
          replace hownW := hide hownW
          have hjoin := Join4_any b5 d5 (l[k].as.map decB) wr.drew (fun b => W1.heap.size ≤ b ∧ b < wr.heap.size) (fun b hb => hb.2) hsl5.out.draw (by rw [List.length_map]; exact hd5) (by omega) (Nat.le_trans hjl.out (by omega))
          simp only [List.length_map] at hjoin
          replace hjoin := hide hjoin
          go_region_held3 (fun _ => True) (trivial)
            (first
              | (go_at_call 41; refine hjoin.out.mono ?_; rintro e w6 ⟨rfl, he6⟩; have hsz6 : wr.heap.size ≤ w6.heap.size := he6.size; replace he6 := hide he6)
              | (have tok := he6; clear tok
                 refine step_push (E := EStr) (B := W.heap.size) (v := u5) (l := (l.take k).map segTB) rfl _ _ _ (by rfl) okStr4 (by decide) (by decide) (by rfl) ((hownW.out.ext ((Ext.refl _).drew.trans he6.out)).alloc _) (by simp; omega) (by simp; omega) (by rfl)
                   ⟨rfl, by simp only [ByteArray.size_append, maxLen]; omega⟩ (str_new w6 _ _) ?_
                 intro v' w7 hown7 hg7 hat7))
          go_wp2
          go_roundw
          case rel => exact ⟨k + 1, by omega, by go_num, by rw [map_take_succ segTB _ _ hlt, ← seg_text]; exact hown7, (((hE.out.trans hE1.out).trans hEj.out).trans (((Ext.refl _).drew.trans he6.out).alloc _)).push (fun b hb => (hown.out.lt b hb).1) hg7⟩
          case measure => simp [intOf]; omega
    · have hkl : k = l.length := by omega
      have ho := hown.out
      rw [hkl, List.take_length] at ho
      obtain ⟨b5, d5, rfl, hd5, hsl5⟩ := ho.slc
      have hjn := Join4_any b5 d5 (l.map segTB) wr (fun b => W.heap.size ≤ b ∧ b < wr.heap.size) (fun b hb => hb.2) hsl5 hd5 (by simpa using hl) (by rw [segTB_map]; have := pathT_le hck.out; rw [pathT] at this; omega)
      rw [path_text] at hjn
      simp only [List.length_map] at hjn
      replace hjn := hide hjn
      clear hsl5 hd5
      go_wp2_with (go_at_call 41; refine hjn.out.mono ?_; rintro e w8 ⟨rfl, he8⟩; replace he8 := hide he8)
      go_ret2
      exact ⟨rfl, (hE0.out.trans hE.out).trans he8.out⟩

theorem AText4_any (a : Option Addr) (c : Nat) (l : List Seg) (w : World) (hl : l.length ≤ 16777216) (hs : Path w a l) (htab : Tab w) :
    Calls Tryz.prog 14 #[.slice a l.length c] w fun e w' => e = .returned (.tuple #[.string (textS l), .int .i64 (errOf (chk l))]) ∧ Ext w w' := by
  cases h : chk l
  · rw [show textS l = ⟨#[]⟩ by simp [textS, h]]
    replace hs := hide hs
    replace h := hide h
    go_enter Tryz.func14, Tryz.ntmps14
    go_wp2_with (go_at_call 17; refine (Check_no _ _ l _ hl hs.out h.out).mono ?_; rintro e w1 ⟨rfl, he1⟩; replace he1 := hide he1)
    go_ret2
    exact ⟨rfl, he1.out⟩
  · by_cases hne : 0 < l.length
    · rw [show textS l = ⟨(pathT l).toArray⟩ by
        have : l ≠ [] := by intro h; subst h; simp at hne
        simp [textS, h, this]]
      exact AText_ok a c l w hl hs htab h hne
    · have hl0 : l = [] := List.eq_nil_of_length_eq_zero (by omega)
      subst hl0
      replace hs := hide hs
      replace h := hide h
      go_enter Tryz.func14, Tryz.ntmps14
      go_wp2_with (go_at_call 17; refine (Check_ok _ _ [] _ hl hs.out h.out).mono ?_; rintro e w1 ⟨rfl, he1⟩; replace he1 := hide he1)
      go_ret2
      exact ⟨rfl, he1.out⟩

/-- What stands ahead of segment k. -/
def pre (l : List Seg) (k : Nat) : List UInt8 := if k = 0 then [] else pathT (l.take k) ++ [32]
theorem pre_succ (l : List Seg) (k : Nat) (hk : k < l.length) : pathT (l.take (k + 1)) = pre l k ++ segT l[k] := by
  unfold pre pathT
  rw [map_take_succ segT l k hk, join_snoc]
  by_cases h : k = 0
  · subst h; simp
  · rw [if_neg h, if_neg]
    intro he
    have := congrArg List.length he
    rw [List.length_map, List.length_take, List.length_nil] at this
    omega
def preA (l : List UInt32) (j : Nat) : List UInt8 := if j = 0 then [] else Lib.join ((l.take j).map asT) [32] ++ [32]
theorem preA_succ (l : List UInt32) (j : Nat) (hj : j < l.length) : Lib.join ((l.take (j + 1)).map asT) [32] = preA l j ++ asT l[j] := by
  unfold preA
  rw [map_take_succ asT l j hj, join_snoc]
  by_cases h : j = 0
  · subst h; simp
  · rw [if_neg h, if_neg]
    intro he
    have := congrArg List.length he
    rw [List.length_map, List.length_take, List.length_nil] at this
    omega
theorem pathT_take_le {l : List Seg} (h : chk l = true) (k : Nat) : (pathT (l.take k)).length ≤ 5358 * l.length := by
  have := join_le 5357 ((l.take k).map segT) (by
    intro x hx
    obtain ⟨s, hs, rfl⟩ := List.mem_map.1 hx
    obtain ⟨j, hj, rfl⟩ := List.getElem_of_mem (List.mem_of_mem_take hs)
    have h1 := (chk_at h j hj).2.2.2.1
    have h2 := segT_le l[j]
    omega)
  simp only [List.length_map, List.length_take] at this
  unfold pathT
  have h3 : 5358 * min k l.length ≤ 5358 * l.length := Nat.mul_le_mul_left _ (Nat.min_le_right _ _)
  omega
theorem open1 (V : World) : (Instr.slice 9 (.string ⟨#[32, 123, 60, 40, 91]⟩) (some (.int .i64 1)) (some (.int .i64 (1 + 1))) none).run Tryz.prog V = .ok (.string (opB 1)) V := by kernel_rfl
theorem open2 (V : World) : (Instr.slice 9 (.string ⟨#[32, 123, 60, 40, 91]⟩) (some (.int .i64 2)) (some (.int .i64 (2 + 1))) none).run Tryz.prog V = .ok (.string (opB 2)) V := by kernel_rfl
theorem open3 (V : World) : (Instr.slice 9 (.string ⟨#[32, 123, 60, 40, 91]⟩) (some (.int .i64 3)) (some (.int .i64 (3 + 1))) none).run Tryz.prog V = .ok (.string (opB 3)) V := by kernel_rfl
theorem open4 (V : World) : (Instr.slice 9 (.string ⟨#[32, 123, 60, 40, 91]⟩) (some (.int .i64 4)) (some (.int .i64 (4 + 1))) none).run Tryz.prog V = .ok (.string (opB 4)) V := by kernel_rfl
theorem open_at (k : Int) (h1 : 1 ≤ k) (h2 : k ≤ 4) (V : World) : (Instr.slice 9 (.string ⟨#[32, 123, 60, 40, 91]⟩) (some (.int .i64 k)) (some (.int .i64 (k + 1))) none).run Tryz.prog V = .ok (.string (opB k)) V := by
  have : k = 1 ∨ k = 2 ∨ k = 3 ∨ k = 4 := by omega
  rcases this with h | h | h | h
  · subst h; exact open1 V
  · subst h; exact open2 V
  · subst h; exact open3 V
  · subst h; exact open4 V
theorem shut1 (V : World) : (Instr.slice 9 (.string ⟨#[32, 125, 62, 41, 93]⟩) (some (.int .i64 1)) (some (.int .i64 (1 + 1))) none).run Tryz.prog V = .ok (.string (clB 1)) V := by kernel_rfl
theorem shut2 (V : World) : (Instr.slice 9 (.string ⟨#[32, 125, 62, 41, 93]⟩) (some (.int .i64 2)) (some (.int .i64 (2 + 1))) none).run Tryz.prog V = .ok (.string (clB 2)) V := by kernel_rfl
theorem shut3 (V : World) : (Instr.slice 9 (.string ⟨#[32, 125, 62, 41, 93]⟩) (some (.int .i64 3)) (some (.int .i64 (3 + 1))) none).run Tryz.prog V = .ok (.string (clB 3)) V := by kernel_rfl
theorem shut4 (V : World) : (Instr.slice 9 (.string ⟨#[32, 125, 62, 41, 93]⟩) (some (.int .i64 4)) (some (.int .i64 (4 + 1))) none).run Tryz.prog V = .ok (.string (clB 4)) V := by kernel_rfl
theorem shut_at (k : Int) (h1 : 1 ≤ k) (h2 : k ≤ 4) (V : World) : (Instr.slice 9 (.string ⟨#[32, 125, 62, 41, 93]⟩) (some (.int .i64 k)) (some (.int .i64 (k + 1))) none).run Tryz.prog V = .ok (.string (clB k)) V := by
  have : k = 1 ∨ k = 2 ∨ k = 3 ∨ k = 4 := by omega
  rcases this with h | h | h | h
  · subst h; exact shut1 V
  · subst h; exact shut2 V
  · subst h; exact shut3 V
  · subst h; exact shut4 V
theorem joinA_take (l : List UInt32) (j : Nat) (hj : j ≤ 255) : (Lib.join ((l.take j).map asT) [32]).length ≤ 5355 := by
  have := joinAs_le (l.take j)
  simp only [List.length_take] at this
  omega

theorem EU32.blk {w : World} {g : Nat} {t : TypeId} (xs : List UInt32) (h : Blk w g t (xs.map fun x => Value.int .u32 (x.toNat : Int)).toArray) : Sl EU32 w (· < w.heap.size) (some ⟨g, 0, none⟩) xs := by
  refine .inr ⟨g, 0, rfl, h.lt, fun k x hx => ⟨[.int .u32 (x.toNat : Int)], ⟨rfl, trivial⟩, fun j u hu => ?_⟩⟩
  match j, hu with
  | 0, hu =>
    simp at hu
    subst hu
    have := h.cell (0 + k * 1 + 0)
    show w.cell? ⟨g, 0 + k * 1 + 0, none⟩ = _
    rw [this]
    simp [hx]
theorem Path.blk {w : World} {g : Nat} {t : TypeId} {cs : Array Value} (l : List Seg) (h : Blk w g t cs)
    (hl : ∀ (k : Nat) (x : Seg), l[k]? = some x → (-9223372036854775808 ≤ x.kind ∧ x.kind ≤ 9223372036854775807) ∧ x.as.length ≤ 16777216 ∧ ∃ a c, cs[k * 2]? = some (.int .i64 x.kind) ∧ cs[k * 2 + 1]? = some (.slice a x.as.length c) ∧ Sl EU32 w (· < w.heap.size) a x.as) : Path w (some ⟨g, 0, none⟩) l := by
  refine .inr ⟨g, 0, rfl, h.lt, fun k x hx => ?_⟩
  obtain ⟨hb, hm, a, c, h0, h1, hs⟩ := hl k x hx
  refine ⟨[.int .i64 x.kind, .slice a x.as.length c], ⟨[.int .i64 x.kind], [.slice a x.as.length c], rfl, ⟨rfl, hb⟩, a, c, rfl, hm, hs⟩, fun j u hu => ?_⟩
  have hc : ∀ j, w.cell? ⟨g, 0 + k * ESeg.sz + j, none⟩ = cs[k * 2 + j]? := fun j => by
    have := h.cell (k * 2 + j)
    rw [show 0 + k * ESeg.sz + j = k * 2 + j by show 0 + k * 2 + j = _; omega]
    exact this
  rw [hc]
  match j, hu with
  | 0, hu => simpa using h0.trans hu
  | 1, hu => simpa using h1.trans hu

theorem seg_any (k : Int) (a : Option Addr) (n c : Nat) (w : World) :
    Calls Tryz.prog 4 #[.int .i64 k, .slice a n c] w fun e w' => e = .returned (.agg #[.int .i64 k, .slice a n c]) ∧ Ext w w' := by
  go_enter Tryz.func4, Tryz.ntmps4
  go_wp2
  exact bodyPost_ret (v := .agg #[.int .i64 k, .slice a n c]) (by simp [results, Tryz.results4, go_sem]) rfl ⟨rfl, (Ext.refl _).alloc _⟩

def wl : List Seg := [⟨2, [1, 70000]⟩, ⟨1, [3]⟩]
theorem wl_text : textS wl = ⟨#[60, 49, 32, 55, 48, 48, 48, 48, 62, 32, 123, 51, 125]⟩ := by decide +kernel
theorem wl_enc : encS (wl.take 1) false = ⟨#[2, 2, 0, 1, 91, 160]⟩ := by decide +kernel
theorem wl_len : lenS wl = 3 := by decide +kernel
theorem wl_chk : chk wl = true := by decide +kernel
theorem wl_chk1 : chk (wl.take 1) = true := by decide +kernel

set_option maxRecDepth 20000 in
set_option maxHeartbeats 4000000 in
theorem works_any (w : World) (htab : Tab w) : Calls Tryz.prog 16 #[] w fun e w' => e = .returned (.bool true) ∧ Ext w w' := by
  replace htab := hide htab
  go_enter Tryz.func16, Tryz.ntmps16
  go_wp2_with fail
  have bA := Blk.new w 26 #[.int .u32 1, .int .u32 70000]
  generalize hWA : w.alloc (Obj.cells #[Value.int .u32 1, Value.int .u32 70000] 26) = WA at bA ⊢
  have eA : Ext w WA := by rw [← hWA]; exact (Ext.refl _).alloc _
  clear hWA
  refine (seg_any _ _ _ _ _).mono ?_
  rintro e w1 ⟨rfl, he1⟩
  have b1 := bA.ext he1
  have e1 := hide (eA.trans he1)
  clear he1 bA eA
  replace b1 := hide b1
  go_wp2_with fail
  have bB := Blk.new w1 26 #[.int .u32 3]
  have bC := b1.out.alloc (Obj.cells #[.int .u32 3] 26)
  generalize hWB : w1.alloc (Obj.cells #[Value.int .u32 3] 26) = WB at bB bC ⊢
  have eB : Ext w1 WB := by rw [← hWB]; exact (Ext.refl _).alloc _
  clear hWB
  refine (seg_any _ _ _ _ _).mono ?_
  rintro e w2 ⟨rfl, he2⟩
  have b2 := hide (bB.ext he2)
  have b3 := hide (bC.ext he2)
  have e2 := hide ((e1.out.trans eB).trans he2)
  clear he2 bB bC eB
  go_wp2_with fail
  have b4 := Blk.new w2 24 #[.int .i64 2, .slice (some ⟨w.heap.size, 0, none⟩) 2 2, .int .i64 1, .slice (some ⟨w1.heap.size, 0, none⟩) 1 1]
  have b5 := b2.out.alloc (Obj.cells #[.int .i64 2, .slice (some ⟨w.heap.size, 0, none⟩) 2 2, .int .i64 1, .slice (some ⟨w1.heap.size, 0, none⟩) 1 1] 24)
  have b6 := b3.out.alloc (Obj.cells #[.int .i64 2, .slice (some ⟨w.heap.size, 0, none⟩) 2 2, .int .i64 1, .slice (some ⟨w1.heap.size, 0, none⟩) 1 1] 24)
  generalize hWC : w2.alloc (Obj.cells #[.int .i64 2, .slice (some ⟨w.heap.size, 0, none⟩) 2 2, .int .i64 1, .slice (some ⟨w1.heap.size, 0, none⟩) 1 1] 24) = WC at b4 b5 b6 ⊢
  have eC : Ext w WC := by rw [← hWC]; exact e2.out.alloc _
  clear hWC
  have hp : Path WC (some ⟨w2.heap.size, 0, none⟩) wl := by
    refine Path.blk wl b4 fun k x hx => ?_
    match k, hx with
    | 0, hx =>
      obtain rfl : (⟨2, [1, 70000]⟩ : Seg) = x := by simpa [wl] using hx
      exact ⟨by decide, by simp, _, _, rfl, rfl, EU32.blk [1, 70000] b6⟩
    | 1, hx =>
      obtain rfl : (⟨1, [3]⟩ : Seg) = x := by simpa [wl] using hx
      exact ⟨by decide, by simp, _, _, rfl, rfl, EU32.blk [3] b5⟩
  clear b4 b5 b6 b1 b2 b3 e1 e2
  replace eC := hide eC
  replace hp := hide hp
  have hT := AText4_any (some ⟨w2.heap.size, 0, none⟩) 2 wl WC (by decide) hp.out (htab.out.ext eC.out)
  rw [wl_text, wl_chk] at hT
  change Calls _ _ #[.slice (some ⟨w2.heap.size, 0, none⟩) 2 2] _ _ at hT
  refine hT.mono ?_
  rintro e w3 ⟨rfl, he3⟩
  clear hT
  simp only [errOf_t]
  have p3 := hide (hp.out.ext he3)
  have e3 := hide (eC.out.trans he3)
  clear he3
  go_wp2_with fail
  have hN := AEncode_any (some ⟨w2.heap.size, 0, none⟩) 2 (wl.take 1) false w3 (by decide) (p3.out.take 1)
  rw [wl_enc, wl_chk1] at hN
  change Calls _ _ #[.slice (some ⟨w2.heap.size, 0, none⟩) 1 2, .bool false] _ _ at hN
  refine hN.mono ?_
  rintro e w4 ⟨rfl, he4⟩
  clear hN
  simp only [errOf_t]
  have p4 := hide (p3.out.ext he4)
  have e4 := hide (e3.out.trans he4)
  clear he4
  go_wp2_with fail
  have hL := Length_any (some ⟨w2.heap.size, 0, none⟩) 2 wl w4 (by decide) p4.out
  rw [wl_len] at hL
  change Calls _ _ #[.slice (some ⟨w2.heap.size, 0, none⟩) 2 2] _ _ at hL
  refine hL.mono ?_
  rintro e w5 ⟨rfl, he5⟩
  clear hL
  have e5 := hide (e4.out.trans he5)
  clear he5
  go_wp2
  go_ret
  exact ⟨rfl, e5.out⟩

def confB (k : Int) : Bool := k == 3 || k == 4
def bareS (l : List Seg) : List Seg := l.filter fun s => !confB s.kind
def flatS (l : List Seg) : List UInt32 := l.flatMap (·.as)
def hasS (l : List Seg) (x : UInt32) : Bool := l.any fun s => s.as.contains x
def firstV (l : List Seg) : UInt32 × Bool := match bareS l with
  | s :: _ => if s.kind = 2 then (match s.as with | x :: _ => (x, true) | [] => (0, false)) else (0, false)
  | [] => (0, false)
theorem bareS_take_none {l : List Seg} {k : Nat} (h : (l.take k).all (fun s => confB s.kind) = true) : bareS l = bareS (l.drop k) := by
  have : bareS (l.take k) = [] := by
    unfold bareS
    rw [List.filter_eq_nil_iff]
    intro s hs
    have := (List.all_eq_true.1 h) s hs
    simp [this]
  conv => lhs; rw [← List.take_append_drop k l]
  unfold bareS at this ⊢
  rw [List.filter_append, this, List.nil_append]
theorem firstV_at {l : List Seg} {k : Nat} (hk : k < l.length) (h : (l.take k).all (fun s => confB s.kind) = true) (hc : confB l[k].kind = false) :
    firstV l = if l[k].kind = 2 then (match l[k].as with | x :: _ => (x, true) | [] => (0, false)) else (0, false) := by
  have : bareS l = l[k] :: bareS (l.drop (k + 1)) := by
    rw [bareS_take_none h, List.drop_eq_getElem_cons hk]
    unfold bareS
    rw [List.filter_cons, if_pos (by simp [hc])]
  unfold firstV
  rw [this]
theorem firstV_none {l : List Seg} (h : l.all (fun s => confB s.kind) = true) : firstV l = (0, false) := by
  have : bareS l = [] := by
    unfold bareS
    rw [List.filter_eq_nil_iff]
    intro s hs
    have := (List.all_eq_true.1 h) s hs
    simp [this]
  unfold firstV
  rw [this]

set_option maxHeartbeats 1000000 in
theorem confed_any (k : Int) (a : Option Addr) (n c : Nat) (w : World) :
    Calls Tryz.prog 18 #[.agg #[.int .i64 k, .slice a n c]] w fun e w' => e = .returned (.bool (confB k)) ∧ Ext w w' := by
  go_enter Tryz.func18, Tryz.ntmps18
  go_wp2
  all_goals go_ret
  · have hk : k = 3 := ‹k = 3›
    subst hk
    exact ⟨rfl, (Ext.refl _).alloc _⟩
  · exact ⟨rfl, (Ext.refl _).alloc _⟩
theorem all_take_succ' (l : List Seg) (k : Nat) (hk : k < l.length) (f : Seg → Bool) (h : (l.take k).all f = true) (hf : f l[k] = true) : (l.take (k + 1)).all f = true := by
  rw [all_take_succ l k hk, h, hf]; rfl
def fstOut (p : UInt32 × Bool) : Value := .tuple #[.int .u32 (p.1.toNat : Int), .bool p.2]

set_option maxRecDepth 20000 in
set_option maxHeartbeats 2000000 in
theorem AFirst_any (a : Option Addr) (c : Nat) (l : List Seg) (w : World) (hl : l.length ≤ 16777216) (hs : Path w a l) :
    Calls Tryz.prog 5 #[.slice a l.length c] w fun e w' => e = .returned (fstOut (firstV l)) ∧ Ext w w' := by
  replace hs := hide hs
  go_enter Tryz.func5, Tryz.ntmps5
  go_wp2
  go_loopw [8] (fun i wr => ∃ k : Nat, k ≤ l.length ∧ i = .int .i64 k ∧ Ext w wr ∧ (l.take k).all (fun s => confB s.kind) = true) (fun i _ => l.length - (intOf i).toNat)
  case atStart => exact ⟨0, Nat.zero_le _, rfl, Ext.refl _, rfl⟩
  case round =>
    obtain ⟨k, hk, rfl, hE, ha⟩ := hrel
    replace ha := hide ha
    replace hE := hide hE
    by_cases hlt : k < l.length
    · obtain ⟨b, off, ak, ck, rfl, _, h0, h1, hm, hs', hk1, hk2⟩ := ESeg.at (hs.out.ext hE.out) k hlt
      replace hs' := hide hs'
      by_cases hc : confB l[k].kind = true
      · replace hc := hide hc
        go_wp2_with (go_at_call 18; refine (confed_any _ _ _ _ _).mono ?_; rw [hc.out]; rintro e w1 ⟨rfl, he1⟩; replace he1 := hide he1)
        go_roundw
        case rel => exact ⟨k + 1, by omega, by go_num, (hE.out.alloc _).trans he1.out, all_take_succ' l k hlt _ ha.out hc.out⟩
        case measure => simp [intOf]; omega
      · replace hc : confB l[k].kind = false := by simpa using hc
        have hv := firstV_at hlt ha.out hc
        replace hc := hide hc
        have hblk := hide (Blk.new wr 24 #[.int .i64 l[k].kind, .slice ak l[k].as.length ck])
        by_cases h2 : l[k].kind = 2
        · have e2 : (l[k].kind != 2) = false := by simp [h2]
          rw [if_pos h2] at hv
          replace h2 := hide h2
          by_cases h3 : 0 < l[k].as.length
          · obtain ⟨b4, o4, rfl, _, q0⟩ := EU32.at hs'.out 0 h3
            have hv2 : firstV l = (l[k].as[0], true) := by
              rw [hv]
              split
              · rename_i x r he
                simp [he]
              · rename_i he
                rw [he] at h3
                simp at h3
            have e3 : ((l[k].as.length : Int) == 0) = false := by rw [beq_eq_false_iff_ne]; omega
            replace hv := hide hv2
            clear hv2
            simp only [Nat.add_zero] at q0
            go_wp2_with (go_at_call 18; refine (confed_any _ _ _ _ _).mono ?_; rw [hc.out]; rintro e w1 ⟨rfl, he1⟩; have j0 := (hblk.out.ext he1).cell 0; have j1 := (hblk.out.ext he1).cell 1; have j2 := (Ext.trans ((Ext.refl wr).alloc _) he1).cell q0; simp only [List.getElem?_toArray, List.getElem?_cons_zero, List.getElem?_cons_succ] at j0 j1; replace he1 := hide he1)
            go_ret2
            exact ⟨by rw [hv.out]; rfl, (hE.out.alloc _).trans he1.out⟩
          · have e3 : ((l[k].as.length : Int) == 0) = true := by rw [beq_iff_eq]; omega
            have hv2 : firstV l = (0, false) := by
              rw [hv]
              split
              · rename_i x r he
                rw [he] at h3
                simp at h3
              · rfl
            replace hv := hide hv2
            clear hv2
            go_wp2_with (go_at_call 18; refine (confed_any _ _ _ _ _).mono ?_; rw [hc.out]; rintro e w1 ⟨rfl, he1⟩; have j0 := (hblk.out.ext he1).cell 0; have j1 := (hblk.out.ext he1).cell 1; simp only [List.getElem?_toArray, List.getElem?_cons_zero, List.getElem?_cons_succ] at j0 j1; replace he1 := hide he1)
            go_ret2
            exact ⟨by rw [hv.out]; rfl, (hE.out.alloc _).trans he1.out⟩
        · have e2 : (l[k].kind != 2) = true := by simp [h2]
          rw [if_neg h2] at hv
          replace h2 := hide h2
          replace hv := hide hv
          go_wp2_with (go_at_call 18; refine (confed_any _ _ _ _ _).mono ?_; rw [hc.out]; rintro e w1 ⟨rfl, he1⟩; have j0 := (hblk.out.ext he1).cell 0; have j1 := (hblk.out.ext he1).cell 1; simp only [List.getElem?_toArray, List.getElem?_cons_zero, List.getElem?_cons_succ] at j0 j1; replace he1 := hide he1)
          go_ret2
          exact ⟨by rw [hv.out]; rfl, (hE.out.alloc _).trans he1.out⟩
    · have hv : firstV l = (0, false) := firstV_none (by have := ha.out; rwa [List.take_of_length_le (by omega)] at this)
      replace hv := hide hv
      go_wp2
      go_ret2
      exact ⟨by rw [hv.out]; rfl, hE.out⟩

theorem Own.toPath {w : World} {v : Value} {B : Nat} {l : List Seg} (h : Own ESeg 24 w B v l) : ∃ a c, v = .slice a l.length c ∧ l.length ≤ c ∧ Path w a l := by
  obtain ⟨a, c, rfl, hc, hs⟩ := h.slc
  exact ⟨a, c, rfl, hc, hs.mono fun _ hb => hb.2⟩
theorem bareS_le (l : List Seg) : (bareS l).length ≤ l.length := List.length_filter_le _ _

end Go.Proofs.YtiappobhljiknaaGreatDoor
