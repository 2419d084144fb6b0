/- Walks: aspath.Text. -/
import Derived.Test.YtiappobhljiknaaDoorW7
import Derived.Test.YtiappobhljiknaaDoorA4
namespace Go.Proofs.YtiappobhljiknaaDoor
open Go.RowKit
set_option linter.unusedVariables false

theorem okStr : ElemOk Tryd.prog 56 9 EStr.sz 16 := elemOk (z := .string ⟨#[]⟩) Tryd.underlying56 (by kernel_rfl) rfl
def brkV : Value := .agg #[.string ⟨#[]⟩, .string ⟨#[123, 125]⟩, .string ⟨#[60, 62]⟩, .string ⟨#[40, 41]⟩, .string ⟨#[91, 93]⟩]

theorem brackets_any (w : World) : Calls Tryd.prog 45 #[] w fun e w' => e = .returned brkV ∧ Ext w w' := by
  go_enter Tryd.func45, Tryd.ntmps45
  go_wp2
  exact bodyPost_ret (v := brkV) (by simp [results, Tryd.results45, go_sem, brkV]) rfl ⟨rfl, (Ext.refl _).alloc _⟩

def joinB (xs : List ByteArray) : ByteArray := ⟨(Lib.join (xs.map (·.data.toList)) [32]).toArray⟩
theorem joinB_size (xs : List ByteArray) : (joinB xs).size = (Lib.join (xs.map (·.data.toList)) [32]).length := by rw [joinB]; rfl
def opB (k : Int) : ByteArray := ⟨#[opn k]⟩
def clB (k : Int) : ByteArray := ⟨#[cls k]⟩
/-- strings.Join at a slice of texts, with a blank between. -/
theorem Join_any (a : Option Addr) (c : Nat) (xs : List ByteArray) (w : World) (S : Nat → Prop) (hS : ∀ b, S b → b < w.heap.size) (hs : Sl EStr w S a xs) (hc : xs.length ≤ c) (hl : xs.length ≤ 16777216) (hlen : (Lib.join (xs.map (·.data.toList)) [32]).length ≤ 140737488355328) :
    Calls Tryd.prog 47 #[.slice a xs.length c, .string ⟨#[32]⟩] w fun e w' => e = .returned (.string (joinB xs)) ∧ Ext w w' := by
  rcases hs with rfl | ⟨b, off, rfl, hb, h⟩
  · exact (Tryd.strings_Join_none a c ⟨#[32]⟩ w).mono fun e w' ⟨h1, h2⟩ => by subst h1; subst h2; exact ⟨rfl, Ext.refl _⟩
  · refine Tryd.strings_Join b off c xs ⟨#[32]⟩ w (fun j x hx => ?_) (hS b hb) (by omega) hc hlen
    obtain ⟨cs, ⟨rfl, _⟩, hc⟩ := h j x hx
    have := hc 0 _ rfl
    simpa [EStr, Enc.flat] using this

def brk (k : Int) : ByteArray := ⟨#[opn k, cls k]⟩
theorem brk_at (k : Int) (h1 : 1 ≤ k) (h2 : k ≤ 4) : (#[Value.string ⟨#[]⟩, .string ⟨#[123, 125]⟩, .string ⟨#[60, 62]⟩, .string ⟨#[40, 41]⟩, .string ⟨#[91, 93]⟩] : Array Value)[k.toNat]? = some (.string (brk k)) := by
  have : k = 1 ∨ k = 2 ∨ k = 3 ∨ k = 4 := by omega
  rcases this with rfl | rfl | rfl | rfl <;> rfl

def decB (a : UInt32) : ByteArray := dec a.toNat
def segTB (s : Seg) : ByteArray := ⟨(segT s).toArray⟩
theorem decB_map (l : List UInt32) : (l.map decB).map (·.data.toList) = l.map asT := by
  simp [List.map_map, Function.comp_def, decB, dec, asT]
theorem segTB_map (l : List Seg) : (l.map segTB).map (·.data.toList) = l.map segT := by
  simp [List.map_map, Function.comp_def, segTB]
theorem decB_size (a : UInt32) : (decB a).size ≤ 20 := by
  have := asT_le a
  rw [size_list]; exact this
theorem map_take_succ {α β : Type} (f : α → β) (l : List α) (k : Nat) (hk : k < l.length) : (l.take (k + 1)).map f = (l.take k).map f ++ [f l[k]] := by
  rw [List.take_succ_eq_append_getElem hk, List.map_append]; rfl
theorem str_new (w : World) (s : ByteArray) (t : TypeId) : ∀ j u, [Value.string s][j]? = some u → (w.alloc (.cells #[.string s] t)).cell? ((⟨w.heap.size, 0, none⟩ : Addr).add j) = some u := cell_one_new w _ t

theorem ba_ext {a b : ByteArray} (h : a.data.toList = b.data.toList) : a = b := by
  cases a; cases b; simp only [ByteArray.mk.injEq]; exact Array.toList_inj.1 h
theorem seg_text (s : Seg) : opB s.kind ++ joinB (s.as.map decB) ++ clB s.kind = segTB s := by
  apply ba_ext
  simp only [ByteArray.data_append, Array.toList_append, opB, clB, joinB, segTB, segT, decB_map]
  simp
theorem path_text (l : List Seg) : joinB (l.map segTB) = ⟨(pathT l).toArray⟩ := by
  rw [joinB, segTB_map]; rfl

set_option maxRecDepth 20000 in
set_option maxHeartbeats 4000000 in
theorem AText_ok (a : Option Addr) (c : Nat) (l : List Seg) (w : World) (hl : l.length ≤ 16777216) (hs : Path w a l) (htab : Tab w) (hck : chk l = true) (hne : 0 < l.length) :
    Calls Tryd.prog 15 #[.slice a l.length c] w fun e w' => e = .returned (.tuple #[.string ⟨(pathT l).toArray⟩, .int .i64 0]) ∧ Ext w w' := by
  replace hs := hide hs
  replace hck := hide hck
  replace htab := hide htab
  have hlen := chk_len hck.out
  have e0 : ((l.length : Int) == 0) = false := by rw [beq_eq_false_iff_ne]; omega
  go_enter Tryd.func15, Tryd.ntmps15
  go_wp2_with (first
    | (go_at_call 22; refine (Check_ok _ _ l _ hl hs.out hck.out).mono ?_; rintro e w1 ⟨rfl, he1⟩; replace he1 := hide he1)
    | (go_at_call 45; refine (brackets_any _).mono ?_; rintro e w2 ⟨rfl, he2⟩; unfold brkV; replace he2 := hide he2))
  generalize hW : w2.alloc (Obj.cells #[Value.string { data := #[] }, Value.string { data := #[123, 125] }, Value.string { data := #[60, 62] }, Value.string { data := #[40, 41] }, Value.string { data := #[91, 93] }] 54) = W
  have hE0 : Ext w W := by rw [← hW]; exact (he1.out.trans he2.out).alloc _
  have hBk : Blk W w2.heap.size 54 #[Value.string { data := #[] }, Value.string { data := #[123, 125] }, Value.string { data := #[60, 62] }, Value.string { data := #[40, 41] }, Value.string { data := #[91, 93] }] := by rw [← hW]; exact Blk.new _ _ _
  replace hE0 := hide hE0
  replace hBk := hide hBk
  clear hW
  go_loopw [5, 21] (fun v i wr => ∃ k : Nat, k ≤ l.length ∧ i = .int .i64 k ∧ Own EStr 9 wr W.heap.size v ((l.take k).map segTB) ∧ Ext W wr) (fun _ i _ => l.length - (intOf i).toNat)
  case atStart => exact ⟨0, Nat.zero_le _, rfl, by simpa using Own.nil, Ext.refl _⟩
  case round =>
    obtain ⟨k, hk, rfl, hown, hE⟩ := hrel
    have hsz := hE.size
    replace hE := hide hE
    replace hown := hide hown
    by_cases hlt : k < l.length
    · obtain ⟨b1, o1, a1, c1, rfl, _, h0, h1, hm1, hs1, hk1, hk2⟩ := ESeg.at (hs.out.ext (hE0.out.trans hE.out)) k hlt
      obtain ⟨g1, g2, g3, g4, _⟩ := chk_at hck.out k hlt
      replace hs1 := hide hs1
      go_wp2
      generalize hW1 : wr.alloc (Obj.cells #[Value.int IntKind.i64 l[k].kind, Value.slice a1 l[k].as.length c1] 48) = W1
      have hE1 : Ext wr W1 := by rw [← hW1]; exact (Ext.refl _).alloc _
      have hB1 : Blk W1 wr.heap.size 48 #[Value.int IntKind.i64 l[k].kind, Value.slice a1 l[k].as.length c1] := by rw [← hW1]; exact Blk.new _ _ _
      have hsz1 := hE1.size
      replace hE1 := hide hE1
      replace hB1 := hide hB1
      clear hW1
      go_loopw [8, 28] (fun v i wq => ∃ j : Nat, j ≤ l[k].as.length ∧ i = .int .i64 j ∧ Own EStr 9 wq W1.heap.size v ((l[k].as.take j).map decB) ∧ Ext W1 wq) (fun _ i _ => l[k].as.length - (intOf i).toNat)
      case atStart => exact ⟨0, Nat.zero_le _, rfl, by simpa using Own.nil, Ext.refl _⟩
      case round =>
        obtain ⟨j, hj, rfl, hownj, hEj⟩ := hrel
        have hszj := hEj.size
        replace hEj := hide hEj
        replace hownj := hide hownj
        by_cases hltj : j < l[k].as.length
        · obtain ⟨b4, o4, rfl, _, q0⟩ := EU32.at (hs1.out.ext (hE1.out.trans hEj.out)) j hltj
          have hx := l[k].as[j].toNat_lt
          go_wp2_with (first
            | (go_at_call 46; refine (FormatUint_any l[k].as[j].toNat (by omega) _ (htab.out.ext (((hE0.out.trans hE.out).trans hE1.out).trans hEj.out))).mono ?_; rintro e w4 ⟨rfl, he4⟩; have hsz4 := he4.size; replace he4 := hide he4)
            | (at_builtin
               have hox := (hownj.out.ext he4.out).alloc (Obj.cells #[.string (dec l[k].as[j].toNat)] 9)
               refine wpList_push (E := EStr) rfl _ _ _ rfl okStr (by decide) (by decide) rfl hox (by simp; omega) (by simp; omega) rfl (y := decB l[k].as[j]) (cs := [.string (dec l[k].as[j].toNat)]) ⟨rfl, by have := decB_size l[k].as[j]; unfold maxLen; omega⟩ (str_new _ _ _) ?_
               intro v' w5 hown5 hg5 hat5))
          go_roundw
          case rel => exact ⟨j + 1, by omega, by go_num, by rw [map_take_succ decB _ _ hltj]; exact hown5, ((hEj.out.trans he4.out).alloc _).push (fun b hb => (hownj.out.lt b hb).1) hg5⟩
          case measure => simp [intOf]; omega
        · have hjl : j = l[k].as.length := by omega
          have hoj := hownj.out
          rw [hjl, List.take_length] at hoj
          obtain ⟨b5, d5, rfl, hd5, hsl5⟩ := hoj.slc
          simp only [List.length_map] at hd5
          replace hsl5 := hide hsl5
          have c0 := (hB1.out.ext hEj.out).cell 0
          have cA := ((hBk.out.ext hE.out).ext hE1.out).ext hEj.out
          have cK := (cA.cell l[k].kind.toNat).trans (brk_at l[k].kind g1 g2)
          replace cA := hide cA
          go_wp2
          have hx1 : ∀ V, (Instr.slice 9 (.string (brk l[k].kind)) none (some (.int .i64 1)) none).run Tryd.prog V = .ok (.string (opB l[k].kind)) V := fun V => by kernel_rfl
          have hx2 : ∀ V, (Instr.slice 9 (.string (brk l[k].kind)) (some (.int .i64 1)) none none).run Tryd.prog V = .ok (.string (clB l[k].kind)) V := fun V => by kernel_rfl
          have hjl : (Lib.join (((l[k].as.map decB).map (·.data.toList))) [32]).length ≤ 5355 := by rw [decB_map]; have := joinAs_le l[k].as; omega
          have hjs : (joinB (l[k].as.map decB)).size ≤ 5355 := by rw [joinB_size]; exact hjl
          have hos : (opB l[k].kind).size ≤ 1 := Nat.le_refl _
          have hcs : (clB l[k].kind).size ≤ 1 := Nat.le_refl _
          have hA1 : ¬ 9223372036854775807 < (opB l[k].kind).size + (joinB (l[k].as.map decB)).size := by omega
          have hA2 : ¬ 9223372036854775807 < (opB l[k].kind).size + (joinB (l[k].as.map decB)).size + (clB l[k].kind).size := by omega
          replace hjl := hide hjl
          have hlm : (l[k].as.map decB).length ≤ 255 := by simpa using g4
          have hownW := (((hown.out.ext hE1.out).ext hEj.out))
          replace hownW := hide hownW
          have hjoin := Join_any b5 d5 (l[k].as.map decB) wr.drew (fun b => W1.heap.size ≤ b ∧ b < wr.heap.size) (fun b hb => hb.2) hsl5.out.draw (by rw [List.length_map]; exact hd5) (by omega) (Nat.le_trans hjl.out (by omega))
          simp only [List.length_map] at hjoin
          replace hjoin := hide hjoin
          go_region_held3 (fun _ => True) (trivial)
            (first
              | (go_at_call 47; refine hjoin.out.mono ?_; rintro e w6 ⟨rfl, he6⟩; have hsz6 : wr.heap.size ≤ w6.heap.size := he6.size; replace he6 := hide he6)
              | (have tok := he6; clear tok
                 refine step_push (E := EStr) (B := W.heap.size) (v := u5) (l := (l.take k).map segTB) rfl _ _ _ (by rfl) okStr (by decide) (by decide) (by rfl) ((hownW.out.ext ((Ext.refl _).drew.trans he6.out)).alloc _) (by simp; omega) (by simp; omega) (by rfl)
                   ⟨rfl, by simp only [ByteArray.size_append, maxLen]; omega⟩ (str_new w6 _ _) ?_
                 intro v' w7 hown7 hg7 hat7))
          go_wp2
          go_roundw
          case rel => exact ⟨k + 1, by omega, by go_num, by rw [map_take_succ segTB _ _ hlt, ← seg_text]; exact hown7, (((hE.out.trans hE1.out).trans hEj.out).trans (((Ext.refl _).drew.trans he6.out).alloc _)).push (fun b hb => (hown.out.lt b hb).1) hg7⟩
          case measure => simp [intOf]; omega
    · have hkl : k = l.length := by omega
      have ho := hown.out
      rw [hkl, List.take_length] at ho
      obtain ⟨b5, d5, rfl, hd5, hsl5⟩ := ho.slc
      have hjn := Join_any b5 d5 (l.map segTB) wr (fun b => W.heap.size ≤ b ∧ b < wr.heap.size) (fun b hb => hb.2) hsl5 hd5 (by simpa using hl) (by rw [segTB_map]; have := pathT_le hck.out; rw [pathT] at this; omega)
      rw [path_text] at hjn
      simp only [List.length_map] at hjn
      replace hjn := hide hjn
      clear hsl5 hd5
      go_wp2_with (go_at_call 47; refine hjn.out.mono ?_; rintro e w8 ⟨rfl, he8⟩; replace he8 := hide he8)
      go_ret2
      exact ⟨rfl, (hE0.out.trans hE.out).trans he8.out⟩

theorem AText_any (a : Option Addr) (c : Nat) (l : List Seg) (w : World) (hl : l.length ≤ 16777216) (hs : Path w a l) (htab : Tab w) :
    Calls Tryd.prog 15 #[.slice a l.length c] w fun e w' => e = .returned (.tuple #[.string (textS l), .int .i64 (errOf (chk l))]) ∧ Ext w w' := by
  cases h : chk l
  · rw [show textS l = ⟨#[]⟩ by simp [textS, h]]
    replace hs := hide hs
    replace h := hide h
    go_enter Tryd.func15, Tryd.ntmps15
    go_wp2_with (go_at_call 22; refine (Check_no _ _ l _ hl hs.out h.out).mono ?_; rintro e w1 ⟨rfl, he1⟩; replace he1 := hide he1)
    go_ret2
    exact ⟨rfl, he1.out⟩
  · by_cases hne : 0 < l.length
    · rw [show textS l = ⟨(pathT l).toArray⟩ by
        have : l ≠ [] := by intro h; subst h; simp at hne
        simp [textS, h, this]]
      exact AText_ok a c l w hl hs htab h hne
    · have hl0 : l = [] := List.eq_nil_of_length_eq_zero (by omega)
      subst hl0
      replace hs := hide hs
      replace h := hide h
      go_enter Tryd.func15, Tryd.ntmps15
      go_wp2_with (go_at_call 22; refine (Check_ok _ _ [] _ hl hs.out h.out).mono ?_; rintro e w1 ⟨rfl, he1⟩; replace he1 := hide he1)
      go_ret2
      exact ⟨rfl, he1.out⟩
end Go.Proofs.YtiappobhljiknaaDoor
