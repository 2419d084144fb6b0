/- Walks: a number is put behind bytes: wire.Put, and the document's. Walks: a path as bytes: aspath.Encode, and the document's. Walks: the document's Check and Encode. Walks: aspath.Text. Walks: the document's Text. Walks: the law's own helpers; works. Walks: the first AS, who is in a path, all ASs, the path without the confederation's. -/
import Derived.Test.YtoghdmoldcjedaaGreatDoorW1
import Derived.Test.YtoghdmoldcjedaaGreatDoorWP
import Derived.Test.YtoghdmoldcjedaaGreatDoorBytes
import Derived.Test.YtoghdmoldcjedaaGreatDoorA4
namespace Go.Proofs.YtoghdmoldcjedaaGreatDoor
open Go.RowKit
set_option linter.unusedVariables false
theorem Blk.put {w w1 : World} {g : Nat} {t : TypeId} {u u' : Value} (h : Blk w g t #[u]) (he : Ext w w1) : Blk (w1.setCell ⟨g, 0, none⟩ u') g t #[u'] := by
  have := (h.ext he).set_ 0 u'
  simpa using this
theorem put_list (s : ByteArray) (n v : Nat) : (put s n v).data.toList = s.data.toList ++ be n v := rfl
theorem size_list (s : ByteArray) : s.size = s.data.toList.length := by simp

/-- What a path is as bytes, or the error. -/
def encS (l : List Seg) (four : Bool) : ByteArray := if chk l then ⟨(pathB four l).toArray⟩ else ⟨#[]⟩
theorem okStr4 : ElemOk Tryz.prog 67 9 EStr.sz 16 := elemOk (z := .string ⟨#[]⟩) Tryz.underlying67 (by kernel_rfl) rfl
def brkV : Value := .agg #[.string ⟨#[]⟩, .string ⟨#[123, 125]⟩, .string ⟨#[60, 62]⟩, .string ⟨#[40, 41]⟩, .string ⟨#[91, 93]⟩]

def joinB (xs : List ByteArray) : ByteArray := ⟨(Lib.join (xs.map (·.data.toList)) [32]).toArray⟩
theorem joinB_size (xs : List ByteArray) : (joinB xs).size = (Lib.join (xs.map (·.data.toList)) [32]).length := by rw [joinB]; rfl
def opB (k : Int) : ByteArray := ⟨#[opn k]⟩
def clB (k : Int) : ByteArray := ⟨#[cls k]⟩
/-- strings.Join at a slice of texts, with a blank between. -/
theorem Join4_any (a : Option Addr) (c : Nat) (xs : List ByteArray) (w : World) (S : Nat → Prop) (hS : ∀ b, S b → b < w.heap.size) (hs : Sl EStr w S a xs) (hc : xs.length ≤ c) (hl : xs.length ≤ 16777216) (hlen : (Lib.join (xs.map (·.data.toList)) [32]).length ≤ 140737488355328) :
    Calls Tryz.prog 64 #[.slice a xs.length c, .string ⟨#[32]⟩] w fun e w' => e = .returned (.string (joinB xs)) ∧ Ext w w' := by
  rcases hs with rfl | ⟨b, off, rfl, hb, h⟩
  · exact (Tryz.strings_Join_none a c ⟨#[32]⟩ w).mono fun e w' ⟨h1, h2⟩ => by subst h1; subst h2; exact ⟨rfl, Ext.refl _⟩
  · refine Tryz.strings_Join b off c xs ⟨#[32]⟩ w (fun j x hx => ?_) (hS b hb) (by omega) hc hlen
    obtain ⟨cs, ⟨rfl, _⟩, hc⟩ := h j x hx
    have := hc 0 _ rfl
    simpa [EStr, Enc.flat] using this

def brk (k : Int) : ByteArray := ⟨#[opn k, cls k]⟩
theorem brk_at (k : Int) (h1 : 1 ≤ k) (h2 : k ≤ 4) : (#[Value.string ⟨#[]⟩, .string ⟨#[123, 125]⟩, .string ⟨#[60, 62]⟩, .string ⟨#[40, 41]⟩, .string ⟨#[91, 93]⟩] : Array Value)[k.toNat]? = some (.string (brk k)) := by
  have : k = 1 ∨ k = 2 ∨ k = 3 ∨ k = 4 := by omega
  rcases this with rfl | rfl | rfl | rfl <;> rfl

def decB (a : UInt32) : ByteArray := dec a.toNat
def segTB (s : Seg) : ByteArray := ⟨(segT s).toArray⟩
theorem decB_map (l : List UInt32) : (l.map decB).map (·.data.toList) = l.map asT := by
  simp [List.map_map, Function.comp_def, decB, dec, asT]
theorem segTB_map (l : List Seg) : (l.map segTB).map (·.data.toList) = l.map segT := by
  simp [List.map_map, Function.comp_def, segTB]
theorem decB_size (a : UInt32) : (decB a).size ≤ 20 := by
  have := asT_le a
  rw [size_list]; exact this
theorem map_take_succ {α β : Type} (f : α → β) (l : List α) (k : Nat) (hk : k < l.length) : (l.take (k + 1)).map f = (l.take k).map f ++ [f l[k]] := by
  rw [List.take_succ_eq_append_getElem hk, List.map_append]; rfl
theorem str_new (w : World) (s : ByteArray) (t : TypeId) : ∀ j u, [Value.string s][j]? = some u → (w.alloc (.cells #[.string s] t)).cell? ((⟨w.heap.size, 0, none⟩ : Addr).add j) = some u := cell_one_new w _ t

theorem ba_ext {a b : ByteArray} (h : a.data.toList = b.data.toList) : a = b := by
  cases a; cases b; simp only [ByteArray.mk.injEq]; exact Array.toList_inj.1 h
theorem seg_text (s : Seg) : opB s.kind ++ joinB (s.as.map decB) ++ clB s.kind = segTB s := by
  apply ba_ext
  simp only [ByteArray.data_append, Array.toList_append, opB, clB, joinB, segTB, segT, decB_map]
  simp
theorem path_text (l : List Seg) : joinB (l.map segTB) = ⟨(pathT l).toArray⟩ := by
  rw [joinB, segTB_map]; rfl

/-- What stands ahead of segment k. -/
def pre (l : List Seg) (k : Nat) : List UInt8 := if k = 0 then [] else pathT (l.take k) ++ [32]
theorem pre_succ (l : List Seg) (k : Nat) (hk : k < l.length) : pathT (l.take (k + 1)) = pre l k ++ segT l[k] := by
  unfold pre pathT
  rw [map_take_succ segT l k hk, join_snoc]
  by_cases h : k = 0
  · subst h; simp
  · rw [if_neg h, if_neg]
    intro he
    have := congrArg List.length he
    rw [List.length_map, List.length_take, List.length_nil] at this
    omega
def preA (l : List UInt32) (j : Nat) : List UInt8 := if j = 0 then [] else Lib.join ((l.take j).map asT) [32] ++ [32]
theorem preA_succ (l : List UInt32) (j : Nat) (hj : j < l.length) : Lib.join ((l.take (j + 1)).map asT) [32] = preA l j ++ asT l[j] := by
  unfold preA
  rw [map_take_succ asT l j hj, join_snoc]
  by_cases h : j = 0
  · subst h; simp
  · rw [if_neg h, if_neg]
    intro he
    have := congrArg List.length he
    rw [List.length_map, List.length_take, List.length_nil] at this
    omega
theorem pathT_take_le {l : List Seg} (h : chk l = true) (k : Nat) : (pathT (l.take k)).length ≤ 5358 * l.length := by
  have := join_le 5357 ((l.take k).map segT) (by
    intro x hx
    obtain ⟨s, hs, rfl⟩ := List.mem_map.1 hx
    obtain ⟨j, hj, rfl⟩ := List.getElem_of_mem (List.mem_of_mem_take hs)
    have h1 := (chk_at h j hj).2.2.2.1
    have h2 := segT_le l[j]
    omega)
  simp only [List.length_map, List.length_take] at this
  unfold pathT
  have h3 : 5358 * min k l.length ≤ 5358 * l.length := Nat.mul_le_mul_left _ (Nat.min_le_right _ _)
  omega
theorem open1 (V : World) : (Instr.slice 9 (.string ⟨#[32, 123, 60, 40, 91]⟩) (some (.int .i64 1)) (some (.int .i64 (1 + 1))) none).run Tryz.prog V = .ok (.string (opB 1)) V := by kernel_rfl
theorem open2 (V : World) : (Instr.slice 9 (.string ⟨#[32, 123, 60, 40, 91]⟩) (some (.int .i64 2)) (some (.int .i64 (2 + 1))) none).run Tryz.prog V = .ok (.string (opB 2)) V := by kernel_rfl
theorem open3 (V : World) : (Instr.slice 9 (.string ⟨#[32, 123, 60, 40, 91]⟩) (some (.int .i64 3)) (some (.int .i64 (3 + 1))) none).run Tryz.prog V = .ok (.string (opB 3)) V := by kernel_rfl
theorem open4 (V : World) : (Instr.slice 9 (.string ⟨#[32, 123, 60, 40, 91]⟩) (some (.int .i64 4)) (some (.int .i64 (4 + 1))) none).run Tryz.prog V = .ok (.string (opB 4)) V := by kernel_rfl
theorem open_at (k : Int) (h1 : 1 ≤ k) (h2 : k ≤ 4) (V : World) : (Instr.slice 9 (.string ⟨#[32, 123, 60, 40, 91]⟩) (some (.int .i64 k)) (some (.int .i64 (k + 1))) none).run Tryz.prog V = .ok (.string (opB k)) V := by
  have : k = 1 ∨ k = 2 ∨ k = 3 ∨ k = 4 := by omega
  rcases this with h | h | h | h
  · subst h; exact open1 V
  · subst h; exact open2 V
  · subst h; exact open3 V
  · subst h; exact open4 V
theorem shut1 (V : World) : (Instr.slice 9 (.string ⟨#[32, 125, 62, 41, 93]⟩) (some (.int .i64 1)) (some (.int .i64 (1 + 1))) none).run Tryz.prog V = .ok (.string (clB 1)) V := by kernel_rfl
theorem shut2 (V : World) : (Instr.slice 9 (.string ⟨#[32, 125, 62, 41, 93]⟩) (some (.int .i64 2)) (some (.int .i64 (2 + 1))) none).run Tryz.prog V = .ok (.string (clB 2)) V := by kernel_rfl
theorem shut3 (V : World) : (Instr.slice 9 (.string ⟨#[32, 125, 62, 41, 93]⟩) (some (.int .i64 3)) (some (.int .i64 (3 + 1))) none).run Tryz.prog V = .ok (.string (clB 3)) V := by kernel_rfl
theorem shut4 (V : World) : (Instr.slice 9 (.string ⟨#[32, 125, 62, 41, 93]⟩) (some (.int .i64 4)) (some (.int .i64 (4 + 1))) none).run Tryz.prog V = .ok (.string (clB 4)) V := by kernel_rfl
theorem shut_at (k : Int) (h1 : 1 ≤ k) (h2 : k ≤ 4) (V : World) : (Instr.slice 9 (.string ⟨#[32, 125, 62, 41, 93]⟩) (some (.int .i64 k)) (some (.int .i64 (k + 1))) none).run Tryz.prog V = .ok (.string (clB k)) V := by
  have : k = 1 ∨ k = 2 ∨ k = 3 ∨ k = 4 := by omega
  rcases this with h | h | h | h
  · subst h; exact shut1 V
  · subst h; exact shut2 V
  · subst h; exact shut3 V
  · subst h; exact shut4 V
theorem joinA_take (l : List UInt32) (j : Nat) (hj : j ≤ 255) : (Lib.join ((l.take j).map asT) [32]).length ≤ 5355 := by
  have := joinAs_le (l.take j)
  simp only [List.length_take] at this
  omega

theorem EU32.blk {w : World} {g : Nat} {t : TypeId} (xs : List UInt32) (h : Blk w g t (xs.map fun x => Value.int .u32 (x.toNat : Int)).toArray) : Sl EU32 w (· < w.heap.size) (some ⟨g, 0, none⟩) xs := by
  refine .inr ⟨g, 0, rfl, h.lt, fun k x hx => ⟨[.int .u32 (x.toNat : Int)], ⟨rfl, trivial⟩, fun j u hu => ?_⟩⟩
  match j, hu with
  | 0, hu =>
    simp at hu
    subst hu
    have := h.cell (0 + k * 1 + 0)
    show w.cell? ⟨g, 0 + k * 1 + 0, none⟩ = _
    rw [this]
    simp [hx]
theorem Path.blk {w : World} {g : Nat} {t : TypeId} {cs : Array Value} (l : List Seg) (h : Blk w g t cs)
    (hl : ∀ (k : Nat) (x : Seg), l[k]? = some x → (-9223372036854775808 ≤ x.kind ∧ x.kind ≤ 9223372036854775807) ∧ x.as.length ≤ 16777216 ∧ ∃ a c, cs[k * 2]? = some (.int .i64 x.kind) ∧ cs[k * 2 + 1]? = some (.slice a x.as.length c) ∧ Sl EU32 w (· < w.heap.size) a x.as) : Path w (some ⟨g, 0, none⟩) l := by
  refine .inr ⟨g, 0, rfl, h.lt, fun k x hx => ?_⟩
  obtain ⟨hb, hm, a, c, h0, h1, hs⟩ := hl k x hx
  refine ⟨[.int .i64 x.kind, .slice a x.as.length c], ⟨[.int .i64 x.kind], [.slice a x.as.length c], rfl, ⟨rfl, hb⟩, a, c, rfl, hm, hs⟩, fun j u hu => ?_⟩
  have hc : ∀ j, w.cell? ⟨g, 0 + k * ESeg.sz + j, none⟩ = cs[k * 2 + j]? := fun j => by
    have := h.cell (k * 2 + j)
    rw [show 0 + k * ESeg.sz + j = k * 2 + j by show 0 + k * 2 + j = _; omega]
    exact this
  rw [hc]
  match j, hu with
  | 0, hu => simpa using h0.trans hu
  | 1, hu => simpa using h1.trans hu

def wl : List Seg := [⟨2, [1, 70000]⟩, ⟨1, [3]⟩]
theorem wl_text : textS wl = ⟨#[60, 49, 32, 55, 48, 48, 48, 48, 62, 32, 123, 51, 125]⟩ := by decide +kernel
theorem wl_enc : encS (wl.take 1) false = ⟨#[2, 2, 0, 1, 91, 160]⟩ := by decide +kernel
theorem wl_len : lenS wl = 3 := by decide +kernel
theorem wl_chk : chk wl = true := by decide +kernel
theorem wl_chk1 : chk (wl.take 1) = true := by decide +kernel

def confB (k : Int) : Bool := k == 3 || k == 4
def bareS (l : List Seg) : List Seg := l.filter fun s => !confB s.kind
def flatS (l : List Seg) : List UInt32 := l.flatMap (·.as)
def hasS (l : List Seg) (x : UInt32) : Bool := l.any fun s => s.as.contains x
def firstV (l : List Seg) : UInt32 × Bool := match bareS l with
  | s :: _ => if s.kind = 2 then (match s.as with | x :: _ => (x, true) | [] => (0, false)) else (0, false)
  | [] => (0, false)
theorem bareS_take_none {l : List Seg} {k : Nat} (h : (l.take k).all (fun s => confB s.kind) = true) : bareS l = bareS (l.drop k) := by
  have : bareS (l.take k) = [] := by
    unfold bareS
    rw [List.filter_eq_nil_iff]
    intro s hs
    have := (List.all_eq_true.1 h) s hs
    simp [this]
  conv => lhs; rw [← List.take_append_drop k l]
  unfold bareS at this ⊢
  rw [List.filter_append, this, List.nil_append]
theorem firstV_at {l : List Seg} {k : Nat} (hk : k < l.length) (h : (l.take k).all (fun s => confB s.kind) = true) (hc : confB l[k].kind = false) :
    firstV l = if l[k].kind = 2 then (match l[k].as with | x :: _ => (x, true) | [] => (0, false)) else (0, false) := by
  have : bareS l = l[k] :: bareS (l.drop (k + 1)) := by
    rw [bareS_take_none h, List.drop_eq_getElem_cons hk]
    unfold bareS
    rw [List.filter_cons, if_pos (by simp [hc])]
  unfold firstV
  rw [this]
theorem firstV_none {l : List Seg} (h : l.all (fun s => confB s.kind) = true) : firstV l = (0, false) := by
  have : bareS l = [] := by
    unfold bareS
    rw [List.filter_eq_nil_iff]
    intro s hs
    have := (List.all_eq_true.1 h) s hs
    simp [this]
  unfold firstV
  rw [this]

theorem all_take_succ' (l : List Seg) (k : Nat) (hk : k < l.length) (f : Seg → Bool) (h : (l.take k).all f = true) (hf : f l[k] = true) : (l.take (k + 1)).all f = true := by
  rw [all_take_succ l k hk, h, hf]; rfl
def fstOut (p : UInt32 × Bool) : Value := .tuple #[.int .u32 (p.1.toNat : Int), .bool p.2]

theorem Own.toPath {w : World} {v : Value} {B : Nat} {l : List Seg} (h : Own ESeg 48 w B v l) : ∃ a c, v = .slice a l.length c ∧ l.length ≤ c ∧ Path w a l := by
  obtain ⟨a, c, rfl, hc, hs⟩ := h.slc
  exact ⟨a, c, rfl, hc, hs.mono fun _ hb => hb.2⟩
theorem bareS_le (l : List Seg) : (bareS l).length ≤ l.length := List.length_filter_le _ _

end Go.Proofs.YtoghdmoldcjedaaGreatDoor
