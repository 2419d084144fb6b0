/- Chapter 16, walks: the closure that recovers. Chapter 16, plain: reading a term word by word, without fuel. A region that draws its order: x.f = append(x.f, f(y)): one call, which may panic and may write, beside the load of the slice. -/
import Derived.Test.YtljibkfbldjgdaaGreatDoorEE
import Derived.Defers
import Derived.Recover
import Derived.Test.YtljibkfbldjgdaaGreatDoorEA
import Derived.Test.YtljibkfbldjgdaaGreatDoorPI
namespace Go.Proofs.YtljibkfbldjgdaaGreatDoor
section
open Go.RowKit
set_option linter.unusedVariables false

def noneR : List PanicEntry := [{ v := .iface 93 (.agg #[]), recovered := true }]
set_option maxRecDepth 20000 in
set_option maxHeartbeats 2000000 in
theorem catch_panicking (p q : Nat) (x0 x1 y : Value) (w : World) (hP : Blk w p 25 #[x0, x1]) (hQ : Blk w q 39 #[y]) (hpq : p ≠ q) :
    CallsD Tryz.prog 44 #[.pointer (some ⟨p, 0, none⟩), .pointer (some ⟨q, 0, none⟩)] (.panicking noneP) w fun e u' w' =>
      e = .returned (.tuple #[]) ∧ u' = .panicking noneR ∧ w' = ((((w.alloc (.cells #[] 93)).alloc (.cells #[.int .i64 9, .int .i64 0] 84)).setCell ⟨p, 0, none⟩ (.slice none 0 0)).setCell ⟨p, 1, none⟩ (.slice none 0 0)).setCell ⟨q, 0, none⟩ (.iface 80 (.pointer (some ⟨w.heap.size + 1, 0, none⟩))) := by
  have hta : ∀ W, (Instr.typeAssert (.iface 93 (.agg #[])) 20 93 true).run Tryz.prog W = .ok (.tuple #[.agg #[], .bool true]) W := fun W => by kernel_rfl
  refine callsD_of_wpS Tryz.func44 rfl fun c₀ cs hu => ?_
  unfold noneP at hu
  have P2 := (hP.alloc (Obj.cells #[] 93)).alloc (Obj.cells #[.int .i64 9, .int .i64 0] 84)
  have Q2 := (hQ.alloc (Obj.cells #[] 93)).alloc (Obj.cells #[.int .i64 9, .int .i64 0] 84)
  generalize hW : (w.alloc (Obj.cells #[] 93)).alloc (Obj.cells #[.int .i64 9, .int .i64 0] 84) = W2 at P2 Q2 ⊢
  have c0 : W2.cell? ⟨p, 0, none⟩ = some x0 := P2.cell 0
  have c1 : W2.cell? ⟨p, 1, none⟩ = some x1 := P2.cell 1
  have c2 : W2.cell? ⟨q, 0, none⟩ = some y := Q2.cell 0
  have f0 := fun i => P2.frozen i
  have f1 := fun i => Q2.frozen i
  have hqp : q ≠ p := Ne.symm hpq
  clear hP hQ P2 Q2
  simp only [Tryz.ntmps44, List.size_toArray, List.length_cons, List.length_nil, Nat.reduceAdd, Nat.reduceSub, Array.replicate_succ, Array.replicate_zero, List.push_toArray, List.append_toArray, List.nil_append, List.cons_append]
  apply wpS_seq
  apply wpS_region
  simp [wpOpsS, go_sem, recoverD, hu, Exit.thenS]
  refine wpS_of_wp ?_
  go_wp2
  simp [bodyPostS, results, Tryz.results44, noneR]
  done
theorem catch_idle (p q : Nat) (w : World) :
    CallsD Tryz.prog 44 #[.pointer (some ⟨p, 0, none⟩), .pointer (some ⟨q, 0, none⟩)] .returning w fun e u' w' => e = .returned (.tuple #[]) ∧ u' = .returning ∧ w' = w := by
  refine callsD_of_wpS Tryz.func44 rfl fun c₀ cs hu => ?_
  simp only [Tryz.ntmps44, List.size_toArray, List.length_cons, List.length_nil, Nat.reduceAdd, Nat.reduceSub, Array.replicate_succ, Array.replicate_zero, List.push_toArray, List.append_toArray, List.nil_append, List.cons_append]
  apply wpS_seq
  apply wpS_region
  simp [wpOpsS, go_sem, recoverD, hu, Exit.thenS]
  refine wpS_of_wp ?_
  go_wp2
  cases c₀
  simp_all [bodyPostS, results, Tryz.results44]
end
section
open Go.RowKit
set_option linter.unusedVariables false

theorem readV_len {neg : Bool} {l q : List (List UInt8)} {c : CondS} (h : readV neg l = some (c, q)) : q.length + 2 = l.length := by
  match l, h with
  | [], h => cases h
  | [k], h => cases h
  | k :: x :: r, h =>
    simp only [readV] at h
    generalize numO x 4294967296 = z at h
    have e : q = r := by
      split at h
      · injection h with h; injection h with _ h; exact h.symm
      split at h
      · injection h with h; injection h with _ h; exact h.symm
      split at h
      · injection h with h; injection h with _ h; exact h.symm
      split at h
      · injection h with h; injection h with _ h; exact h.symm
      split at h
      · obtain ⟨n, _, h⟩ := Option.map_eq_some_iff.1 h; injection h with _ h; exact h.symm
      split at h
      · cases z with
        | none => cases h
        | some n => injection h with h; injection h with _ h; exact h.symm
      split at h
      · split at h
        · cases h
        · injection h with h; injection h with _ h; exact h.symm
      cases h
    rw [e]; rfl
theorem readC_len {l q : List (List UInt8)} {c : CondS} (h : readC l = some (c, q)) : q.length + 2 ≤ l.length := by
  match l, h with
  | [], h => cases h
  | w :: r, h =>
    simp only [readC] at h
    split at h
    · have := readV_len h; simp; omega
    · have := readV_len h; omega
theorem readA_len {l q : List (List UInt8)} {a : ActS} (h : readA l = some (a, q)) : q.length + 1 ≤ l.length := by
  match l, h with
  | [], h => cases h
  | w :: r, h =>
    simp only [readA] at h
    split at h
    · cases h
    split at h
    · injection h with h; injection h with _ h; rw [← h]; simp
    match r, h with
    | [], h => cases h
    | x :: s, h =>
      obtain ⟨b, _, h⟩ := Option.map_eq_some_iff.1 h
      injection h with _ h
      rw [← h]; simp
theorem readCs_fuel : ∀ (n m : Nat) (w : List UInt8) (r : List (List UInt8)), r.length < n → r.length < m → readCs n w r = readCs m w r
  | 0, _, _, _, h, _ => by omega
  | _ + 1, 0, _, _, _, h => by omega
  | n + 1, m + 1, w, r, hn, hm => by
    simp only [readCs]
    split
    · rfl
    split
    · cases hc : readC r with
      | none => rfl
      | some p =>
        obtain ⟨c, q⟩ := p
        cases q with
        | nil => rfl
        | cons v q =>
          have := readC_len hc
          simp at this
          simp only []
          rw [readCs_fuel n m v q (by omega) (by omega)]
    · rfl
theorem readAs_fuel : ∀ (n m : Nat) (r : List (List UInt8)), r.length < n → r.length < m → readAs n r = readAs m r
  | 0, _, _, h, _ => by omega
  | _ + 1, 0, _, _, h => by omega
  | n + 1, m + 1, r, hn, hm => by
    simp only [readAs]
    cases hc : readA r with
    | none => rfl
    | some p =>
      obtain ⟨a, q⟩ := p
      cases q with
      | nil => rfl
      | cons v q =>
        have := readA_len hc
        simp at this
        simp only []
        rw [readAs_fuel n m q (by omega) (by omega)]
noncomputable def rCs (w : List UInt8) (r : List (List UInt8)) : Option (List CondS × List (List UInt8)) := readCs (r.length + 1) w r
noncomputable def rAs (r : List (List UInt8)) : Option (List ActS) := readAs (r.length + 1) r
theorem readV_mem {neg : Bool} {l q : List (List UInt8)} {c : CondS} (h : readV neg l = some (c, q)) : ∃ k x, l = k :: x :: q := by
  have hl := readV_len h
  match l, h with
  | [], h => cases h
  | [k], h => cases h
  | k :: x :: r, h =>
    refine ⟨k, x, ?_⟩
    simp only [readV] at h
    generalize numO x 4294967296 = z at h
    have e : q = r := by
      split at h
      · injection h with h; injection h with _ h; exact h.symm
      split at h
      · injection h with h; injection h with _ h; exact h.symm
      split at h
      · injection h with h; injection h with _ h; exact h.symm
      split at h
      · injection h with h; injection h with _ h; exact h.symm
      split at h
      · obtain ⟨n, _, h⟩ := Option.map_eq_some_iff.1 h; injection h with _ h; exact h.symm
      split at h
      · cases z with
        | none => cases h
        | some n => injection h with h; injection h with _ h; exact h.symm
      split at h
      · split at h
        · cases h
        · injection h with h; injection h with _ h; exact h.symm
      cases h
    rw [e]
theorem readC_mem {l q : List (List UInt8)} {c : CondS} (h : readC l = some (c, q)) : ∀ y ∈ q, y ∈ l := by
  match l, h with
  | [], h => cases h
  | w :: r, h =>
    simp only [readC] at h
    split at h
    · obtain ⟨k, x, e⟩ := readV_mem h
      rw [e]; intro y hy; simp [hy]
    · obtain ⟨k, x, e⟩ := readV_mem h
      rw [e]; intro y hy; simp [hy]
theorem readA_mem {l q : List (List UInt8)} {a : ActS} (h : readA l = some (a, q)) : ∀ y ∈ q, y ∈ l := by
  match l, h with
  | [], h => cases h
  | w :: r, h =>
    simp only [readA] at h
    split at h
    · cases h
    split at h
    · injection h with h; injection h with _ h; rw [← h]; intro y hy; simp [hy]
    match r, h with
    | [], h => cases h
    | x :: s, h =>
      obtain ⟨b, _, h⟩ := Option.map_eq_some_iff.1 h
      injection h with _ h
      rw [← h]; intro y hy; simp [hy]
theorem condIn_mk {k n : Int} {neg : Bool} {name : List UInt8} (hk : 0 ≤ k ∧ k ≤ 10) (hn : name.length ≤ 1048576) (h : 0 ≤ n ∧ n ≤ 4294967296) : CondIn ⟨k, neg, name, n⟩ :=
  ⟨show i64 k by unfold i64; omega, hn, show i64 n by unfold i64; omega⟩
theorem readV_in {neg : Bool} {l q : List (List UInt8)} {c : CondS} (h : readV neg l = some (c, q)) (hl : ∀ y ∈ l, y.length ≤ 1048576) : CondIn c := by
  match l, h, hl with
  | [], h, _ => cases h
  | [k], h, _ => cases h
  | k :: x :: r, h, hl =>
    simp only [readV] at h
    have hx := hl x (by simp)
    have hz : ∀ n, numO x 4294967296 = some n → n < 4294967296 := fun n hn => (numO_some hn).1
    generalize numO x 4294967296 = z at h hz
    split at h
    · injection h with h; injection h with h _; rw [← h]; exact condIn_mk (by decide) hx (by decide)
    split at h
    · injection h with h; injection h with h _; rw [← h]; exact condIn_mk (by decide) hx (by decide)
    split at h
    · injection h with h; injection h with h _; rw [← h]; exact condIn_mk (by decide) hx (by decide)
    split at h
    · injection h with h; injection h with h _; rw [← h]; exact condIn_mk (by decide) hx (by decide)
    split at h
    · obtain ⟨n, hn, h⟩ := Option.map_eq_some_iff.1 h
      injection h with h _
      rw [← h]
      refine condIn_mk (by decide) (by simp) ?_
      unfold originN at hn
      split at hn
      · injection hn with hn; subst hn; decide
      split at hn
      · injection hn with hn; subst hn; decide
      split at hn
      · injection hn with hn; subst hn; decide
      cases hn
    split at h
    · cases z with
      | none => cases h
      | some n =>
        have hb := hz n rfl
        injection h with h; injection h with h _; rw [← h]
        exact condIn_mk (by decide) (by simp) (by omega)
    split at h
    · split at h
      · cases h
      · injection h with h; injection h with h _; rw [← h]
        have := famN_bd x
        exact condIn_mk (by decide) (by simp) (by omega)
    cases h
theorem readC_in {l q : List (List UInt8)} {c : CondS} (h : readC l = some (c, q)) (hl : ∀ y ∈ l, y.length ≤ 1048576) : CondIn c := by
  match l, h, hl with
  | [], h, _ => cases h
  | w :: r, h, hl =>
    simp only [readC] at h
    split at h
    · exact readV_in h fun y hy => hl y (by simp [hy])
    · exact readV_in h hl
theorem actIn_mk {k : Int} {name addr : List UInt8} {n : UInt32} (hk : 0 ≤ k ∧ k ≤ 10) (hn : name.length ≤ 1048576) (ha : addr.length ≤ 1048576) : ActIn ⟨k, name, n, addr⟩ :=
  ⟨show i64 k by unfold i64; omega, hn, ha⟩
theorem addrC_len (x : List UInt8) : (addrC x).1.length ≤ 16 := by
  rcases addrC_err x with h | h
  · have := (addr_text h).2.1
    omega
  · rw [h]; simp
theorem actK_bd (w : List UInt8) : 0 ≤ actK w ∧ actK w ≤ 10 := by
  unfold actK
  repeat' split <;> try omega
theorem readX_in {k : Int} {x : List UInt8} {a : ActS} (hk : 0 ≤ k ∧ k ≤ 10) (h : readX k x = some a) (hx : x.length ≤ 1048576) : ActIn a := by
  unfold readX at h
  generalize numO x 4294967296 = z at h
  split at h
  · obtain ⟨n, _, rfl⟩ := Option.map_eq_some_iff.1 h; exact actIn_mk hk (by simp) (by simp)
  split at h
  · obtain ⟨n, _, rfl⟩ := Option.map_eq_some_iff.1 h; exact actIn_mk (by decide) (by simp) (by simp)
  split at h
  · injection h with h; subst h; exact actIn_mk (by decide) hx (by simp)
  split at h
  · split at h
    · injection h with h; subst h; exact actIn_mk (by decide) (by simp) (by have := addrC_len x; omega)
    · cases h
  · obtain ⟨n, _, rfl⟩ := Option.map_eq_some_iff.1 h; exact actIn_mk (by decide) (by simp) (by simp)
theorem readA_in {l q : List (List UInt8)} {a : ActS} (h : readA l = some (a, q)) (hl : ∀ y ∈ l, y.length ≤ 1048576) : ActIn a := by
  match l, h, hl with
  | [], h, _ => cases h
  | w :: r, h, hl =>
    have hb := actK_bd w
    simp only [readA] at h
    split at h
    · cases h
    split at h
    · injection h with h; injection h with h _; rw [← h]; exact actIn_mk hb (by simp) (by simp)
    match r, h, hl with
    | [], h, _ => cases h
    | x :: s, h, hl =>
      obtain ⟨b, hb2, h⟩ := Option.map_eq_some_iff.1 h
      injection h with h _
      rw [← h]
      exact readX_in hb hb2 (hl x (by simp))
/-- What follows an action. -/
noncomputable def tailA : List (List UInt8) → Option (List ActS)
  | [] => some []
  | w :: q => if w = [97, 110, 100] then rAs q else none
theorem rCs_then (r : List (List UInt8)) : rCs [116, 104, 101, 110] r = some ([], r) := by
  unfold rCs
  simp only [readCs]
  rfl
theorem rCs_bad {w : List UInt8} (r : List (List UInt8)) (h1 : w ≠ [116, 104, 101, 110]) (h2 : w ≠ [105, 102]) (h3 : w ≠ [97, 110, 100]) : rCs w r = none := by
  unfold rCs
  simp only [readCs]
  rw [if_neg h1, if_neg (fun h => h.elim h2 h3)]
theorem rCs_none {w : List UInt8} {r : List (List UInt8)} (h1 : w ≠ [116, 104, 101, 110]) (h : readC r = none ∨ ∃ c, readC r = some (c, [])) : rCs w r = none := by
  unfold rCs
  simp only [readCs]
  rw [if_neg h1]
  split
  · rcases h with h | ⟨c, h⟩ <;> rw [h]
  · rfl
theorem rCs_some {w v : List UInt8} {r q : List (List UInt8)} {c : CondS} (h1 : w ≠ [116, 104, 101, 110]) (h2 : w = [105, 102] ∨ w = [97, 110, 100]) (h : readC r = some (c, v :: q)) : rCs w r = (rCs v q).map fun p => (c :: p.1, p.2) := by
  have := readC_len h
  simp at this
  show readCs (r.length + 1) w r = (readCs (q.length + 1) v q).map _
  rw [readCs, if_neg h1, if_pos h2, h]
  simp only []
  rw [readCs_fuel r.length (q.length + 1) v q (by omega) (by omega)]
theorem rAs_none {r : List (List UInt8)} (h : readA r = none) : rAs r = none := by
  unfold rAs
  simp only [readAs, h]
theorem rAs_some {r q : List (List UInt8)} {a : ActS} (h : readA r = some (a, q)) : rAs r = (tailA q).map (a :: ·) := by
  unfold rAs
  simp only [readAs, h]
  cases q with
  | nil => rfl
  | cons w q =>
    have := readA_len h
    simp at this
    simp only [tailA]
    split
    · unfold rAs
      rw [readAs_fuel r.length (q.length + 1) q (by omega) (by omega)]
    · rfl
theorem readCs_len : ∀ (n : Nat) (w : List UInt8) (r : List (List UInt8)) (p : List CondS × List (List UInt8)), readCs n w r = some p → p.2.length ≤ r.length
  | 0, _, _, _, h => by cases h
  | n + 1, w, r, p, h => by
    simp only [readCs] at h
    split at h
    · injection h with h; rw [← h]; exact Nat.le_refl _
    split at h
    · split at h
      · rename_i c v q hc
        obtain ⟨p', hp, rfl⟩ := Option.map_eq_some_iff.1 h
        have h1 := readCs_len n v q p' hp
        have h2 := readC_len hc
        simp at h2
        show p'.2.length ≤ _
        omega
      · cases h
    · cases h
theorem readT_if (r : List (List UInt8)) : readT ([105, 102] :: r) = (rCs [105, 102] r).bind fun p => (rAs p.2).map fun l => ⟨[] ++ p.1, l⟩ := by
  simp only [readT]
  rw [if_pos trivial]
  show (rCs [105, 102] r).bind _ = _
  cases hc : rCs [105, 102] r with
  | none => rfl
  | some p =>
    have := readCs_len _ _ _ _ hc
    show Option.map _ (readAs (r.length + 1) p.2) = Option.map _ (readAs (p.2.length + 1) p.2)
    rw [readAs_fuel (r.length + 1) (p.2.length + 1) p.2 (by omega) (by omega)]
    rfl
theorem readT_then (r : List (List UInt8)) : readT ([116, 104, 101, 110] :: r) = (rAs r).map fun l => ⟨[], l⟩ := by
  simp only [readT]
  rw [if_neg (by decide), if_pos trivial]
  rfl
theorem readT_bad {w : List UInt8} (r : List (List UInt8)) (h1 : w ≠ [116, 104, 101, 110]) (h2 : w ≠ [105, 102]) : readT (w :: r) = none := by
  simp only [readT]
  rw [if_neg h2, if_neg h1]
theorem termO_none {s : List UInt8} (h : readT (spl 32 s) = none) : termO s = none := by
  unfold termO
  rw [h]
  rfl
theorem termO_one {s : List UInt8} {t : TermS} (h : readT (spl 32 s) = some t) : termO s = if termT t = (s, 0) then some t else none := by
  unfold termO
  rw [h]
  rfl
end
section
open Go.RowKit
set_option linter.unusedVariables false

theorem wp_value {P : Program} {o : Oper} {a : Act} {w w' : World} {u : Value} {K : Act → World → Prop} {Q : Exit → Act → World → Prop} (h : (execOp a.eval o).run P w = .ok (.value u) w') (hk : K (a.put o.dst u) w') : Oper.wp P o a w K Q := by
  unfold Oper.wp
  rw [h]
  exact hk
theorem putD_defers {done : Nat → Bool} {val : Nat → Value} : ∀ (l : List Oper) (k : Nat) (a : Act), (putD done val l k a).defers = a.defers
  | [], _, _ => rfl
  | o :: l, k, a => by
    simp only [putD]
    rw [putD_defers l]
    split
    · cases o.dst <;> rfl
    · rfl
/-- A frame that agrees with a0 beside what the region writes. -/
structure Agr (ops : Array Oper) (a0 a : Act) : Prop where
  out : ∀ t, outB' ops t = true → a.eval (.tmp t) = a0.eval (.tmp t)
  defers : a.defers = a0.defers
  size : a.tmps.size = a0.tmps.size
def depB (ops : Array Oper) (i j : Nat) : Bool := match ops[i]? with | some o => o.after.any fun e => Region.binds .any e && e.on == j | none => false
theorem depB_spec {ops : Array Oper} {i j : Nat} (h : depB ops i j = true) {o : Oper} (ho : ops[i]? = some o) {done : Nat → Bool} (hd : ∀ e ∈ o.after, Region.binds .any e = true → done e.on = true) : done j = true := by
  unfold depB at h
  rw [ho] at h
  obtain ⟨k, hk, he⟩ := Array.any_eq_true.1 h
  simp only [Bool.and_eq_true, beq_iff_eq] at he
  rw [← he.2]
  exact hd _ (Array.getElem_mem hk) he.1
structure ApJ (w : World) (v0 v1 v2 : Value) (RV : Value → World → Prop) (cv : Value → Array Value) (t4 : TypeId) (done : Nat → Bool) (val : Nat → Value) (W' : World) : Prop where
  c0 : done 0 = true → val 0 = v0
  c1 : done 1 = true → val 1 = v1
  c2 : done 2 = true → val 2 = v2
  d4 : done 4 = true → done 3 = true
  s0 : done 3 = false → W' = w.drew
  s1 : done 3 = true → ∃ W, RV (val 3) W ∧ ((done 4 = false ∧ W' = W) ∨ (done 4 = true ∧ W' = W.alloc (.cells (cv (val 3)) t4) ∧ val 4 = .slice (some ⟨W.heap.size, 0, none⟩) 1 1))
theorem wp_region_apd {P : Program} {id : Nat} {ops : Array Oper} {Q : Exit → Act → World → Prop} {a0 : Act} {w : World} (hm : P.follows .mixedOrders = true) (hB : distB ops.toList = true) (hb : backM .any ops = true)
    (ht : (decide (5 < ops.size) && Region.sinkB .any ops 5 && Region.chainB .any ops 5 && Region.seqB .any ops (ops.size - 5) 5 (headA 5 (ops.size - 5))) = true)
    (o0 o1 o2 o3 o4 : Oper) (l : List Oper) (hl : ops.toList = o0 :: o1 :: o2 :: o3 :: o4 :: l) (hg : ops.toList.all (fun o => o.guard.isNone) = true)
    (d0 d1 d2 d3 d4 : Tmp) (hd : (o0.dst, o1.dst, o2.dst, o3.dst, o4.dst) = (some d0, some d1, some d2, some d3, some d4)) (hs : d0 < a0.tmps.size ∧ d1 < a0.tmps.size ∧ d2 < a0.tmps.size ∧ d3 < a0.tmps.size ∧ d4 < a0.tmps.size)
    (hdep : (depB ops 1 0 && (depB ops 3 2 && depB ops 4 3)) = true)
    (v0 v1 v2 : Value) (RV : Value → World → Prop) (cv : Value → Array Value) (t4 : TypeId) (Old : World → Prop)
    (x0 : ∀ (a : Act) (W : World), Agr ops a0 a → (execOp a.eval o0).run P W = .ok (.value v0) W)
    (x1 : ∀ (a : Act) (W : World), a.eval (.tmp d0) = v0 → Old W → (execOp a.eval o1).run P W = .ok (.value v1) W)
    (x2 : ∀ (a : Act) (W : World), Agr ops a0 a → (execOp a.eval o2).run P W = .ok (.value v2) W)
    (x3 : ∀ (a : Act), Agr ops a0 a → a.eval (.tmp d2) = v2 → o3.wp P a w.drew (fun a' w' => ∃ v, a' = a.put o3.dst v ∧ RV v w') Q)
    (x4 : ∀ (a : Act) (W : World) (v : Value), a.eval (.tmp d3) = v → RV v W → (execOp a.eval o4).run P W = .ok (.value (.slice (some ⟨W.heap.size, 0, none⟩) 1 1)) (W.alloc (.cells (cv v) t4)))
    (hO0 : Old w.drew) (hO1 : ∀ v W, RV v W → Old W) (hO2 : ∀ v W, RV v W → Old (W.alloc (.cells (cv v) t4)))
    (hend : ∀ v W, RV v W → wpList P ops Q l (((((a0.put (some d0) v0).put (some d1) v1).put (some d2) v2).put (some d3) v).put (some d4) (.slice (some ⟨W.heap.size, 0, none⟩) 1 1)) (W.alloc (.cells (cv v) t4))) :
    (Code.region id ops true).wp P Q a0 w := by
  simp only [Prod.mk.injEq] at hd
  obtain ⟨e0, e1, e2, e3, e4⟩ := hd
  obtain ⟨s0, s1, s2, s3, s4⟩ := hs
  simp only [Bool.and_eq_true] at hdep
  obtain ⟨p10, p32, p43⟩ := hdep
  have hat : ∀ (i : Nat) (o : Oper), (o0 :: o1 :: o2 :: o3 :: o4 :: l)[i]? = some o → ops[i]? = some o := fun i o h => by
    rw [← Array.getElem?_toList, hl]; exact h
  have g : ∀ {i : Nat} {o : Oper}, ops[i]? = some o → o.guard = none := fun {i o} ho => by
    have hmem : o ∈ ops.toList := by rw [← Array.getElem?_toList] at ho; exact List.mem_of_getElem? ho
    have := List.all_eq_true.1 hg o hmem
    simpa using this
  have agr : ∀ done val, Agr ops a0 (putD done val ops.toList 0 a0) := fun done val =>
    ⟨fun t h => eval_putD_out t _ _ _ (outB'_spec h), putD_defers _ _ _, putD_size _ _ _⟩
  have ev : ∀ {i : Nat} {o : Oper} {d : Tmp} {done : Nat → Bool} {val : Nat → Value}, (o0 :: o1 :: o2 :: o3 :: o4 :: l)[i]? = some o → o.dst = some d → done i = true → d < a0.tmps.size → (putD done val ops.toList 0 a0).eval (.tmp d) = val i := fun {i o d done val} ho hd hdn hs => by
    have := eval_putD (done := done) (val := val) ops.toList 0 i a0 o d hB (by rw [hl]; exact ho) hd (by rw [Nat.zero_add]; exact hdn) hs
    rwa [Nat.zero_add] at this
  refine wp_region_JT (J := ApJ w v0 v1 v2 RV cv t4) 5 hm hB hb ht (fun _ => undef) ⟨fun h => Bool.noConfusion h, fun h => Bool.noConfusion h, fun h => Bool.noConfusion h, fun h => Bool.noConfusion h, fun _ => rfl, fun h => Bool.noConfusion h⟩ ?_ ?_
  · intro i o done val w' hi ho hdn hdeps J
    refine ⟨wanted_none' (g ho), ?_⟩
    have A := agr done val
    rcases (show i = 0 ∨ i = 1 ∨ i = 2 ∨ i = 3 ∨ i = 4 by omega) with rfl | rfl | rfl | rfl | rfl
    · obtain rfl : o0 = o := Option.some.inj ((hat 0 o0 rfl).symm.trans ho)
      refine wp_value (x0 _ w' A) ⟨v0, rfl, fun _ => updF_same _ _ _, fun h => ?_, fun h => ?_, fun h => ?_, fun h => ?_, fun h => ?_⟩
      · rw [updF_ne _ _ (by decide)] at h ⊢; exact J.c1 h
      · rw [updF_ne _ _ (by decide)] at h ⊢; exact J.c2 h
      · rw [updF_ne _ _ (by decide)] at h ⊢; exact J.d4 h
      · rw [updF_ne _ _ (by decide)] at h; exact J.s0 h
      · rw [updF_ne _ _ (by decide)] at h; rw [updF_ne _ _ (by decide), updF_ne _ _ (by decide), updF_ne _ _ (by decide)]; exact J.s1 h
    · obtain rfl : o1 = o := Option.some.inj ((hat 1 o1 rfl).symm.trans ho)
      have h0 := depB_spec p10 ho hdeps
      have hold : Old w' := by
        cases h3 : done 3 with
        | false => rw [J.s0 h3]; exact hO0
        | true =>
          obtain ⟨W, hR, ⟨_, rfl⟩ | ⟨_, rfl, _⟩⟩ := J.s1 h3
          · exact hO1 _ _ hR
          · exact hO2 _ _ hR
      refine wp_value (x1 _ w' (by rw [ev (i := 0) rfl e0 h0 s0]; exact J.c0 h0) hold) ⟨v1, rfl, fun h => ?_, fun _ => updF_same _ _ _, fun h => ?_, fun h => ?_, fun h => ?_, fun h => ?_⟩
      · rw [updF_ne _ _ (by decide)] at h ⊢; exact J.c0 h
      · rw [updF_ne _ _ (by decide)] at h ⊢; exact J.c2 h
      · rw [updF_ne _ _ (by decide)] at h ⊢; exact J.d4 h
      · rw [updF_ne _ _ (by decide)] at h; exact J.s0 h
      · rw [updF_ne _ _ (by decide)] at h; rw [updF_ne _ _ (by decide), updF_ne _ _ (by decide), updF_ne _ _ (by decide)]; exact J.s1 h
    · obtain rfl : o2 = o := Option.some.inj ((hat 2 o2 rfl).symm.trans ho)
      refine wp_value (x2 _ w' A) ⟨v2, rfl, fun h => ?_, fun h => ?_, fun _ => updF_same _ _ _, fun h => ?_, fun h => ?_, fun h => ?_⟩
      · rw [updF_ne _ _ (by decide)] at h ⊢; exact J.c0 h
      · rw [updF_ne _ _ (by decide)] at h ⊢; exact J.c1 h
      · rw [updF_ne _ _ (by decide)] at h ⊢; exact J.d4 h
      · rw [updF_ne _ _ (by decide)] at h; exact J.s0 h
      · rw [updF_ne _ _ (by decide)] at h; rw [updF_ne _ _ (by decide), updF_ne _ _ (by decide), updF_ne _ _ (by decide)]; exact J.s1 h
    · obtain rfl : o3 = o := Option.some.inj ((hat 3 o3 rfl).symm.trans ho)
      have h2 := depB_spec p32 ho hdeps
      have h4 : done 4 = false := by
        cases h : done 4 with
        | false => rfl
        | true => rw [J.d4 h] at hdn; cases hdn
      obtain rfl := J.s0 hdn
      refine Oper.wp_mono ?_ (x3 _ A (by rw [ev (i := 2) rfl e2 h2 s2]; exact J.c2 h2))
      rintro a' w'' ⟨v, rfl, hR⟩
      refine ⟨v, rfl, fun h => ?_, fun h => ?_, fun h => ?_, fun h => updF_same _ _ _, fun h => ?_, fun h => ?_⟩
      · rw [updF_ne _ _ (by decide)] at h ⊢; exact J.c0 h
      · rw [updF_ne _ _ (by decide)] at h ⊢; exact J.c1 h
      · rw [updF_ne _ _ (by decide)] at h ⊢; exact J.c2 h
      · rw [updF_same] at h; cases h
      · rw [updF_same, updF_ne _ _ (by decide)]
        exact ⟨w'', hR, .inl ⟨h4, rfl⟩⟩
    · obtain rfl : o4 = o := Option.some.inj ((hat 4 o4 rfl).symm.trans ho)
      have h3 := depB_spec p43 ho hdeps
      obtain ⟨W, hR, ⟨_, rfl⟩ | ⟨h4, _, _⟩⟩ := J.s1 h3
      · refine wp_value (x4 _ w' (val 3) (ev (i := 3) rfl e3 h3 s3) hR) ⟨_, rfl, fun h => ?_, fun h => ?_, fun h => ?_, fun h => ?_, fun h => ?_, fun h => ?_⟩
        · rw [updF_ne _ _ (by decide)] at h ⊢; exact J.c0 h
        · rw [updF_ne _ _ (by decide)] at h ⊢; exact J.c1 h
        · rw [updF_ne _ _ (by decide)] at h ⊢; exact J.c2 h
        · rw [updF_ne _ _ (by decide)]; exact h3
        · rw [updF_ne _ _ (by decide), h3] at h; cases h
        · rw [updF_ne _ _ (by decide)]
          exact ⟨w', hR, .inr ⟨updF_same _ _ _, rfl, updF_same _ _ _⟩⟩
      · rw [hdn] at h4; cases h4
  · intro done val w' hall hnone J
    obtain ⟨W, hR, ⟨h4, _⟩ | ⟨_, rfl, h4⟩⟩ := J.s1 (hall 3 (by decide))
    · rw [hall 4 (by decide)] at h4; cases h4
    have := hend (val 3) W hR
    have hrest : ∀ (l : List Oper) (k : Nat) (a : Act), 5 ≤ k → putD done val l k a = a := by
      intro l
      induction l with
      | nil => intro k a _; rfl
      | cons o l ih => intro k a hk; simp only [putD]; rw [hnone k hk, if_neg (by decide)]; exact ih _ _ (by omega)
    rw [hl]
    simp only [putD, hall 0 (by decide), hall 1 (by decide), hall 2 (by decide), hall 3 (by decide), hall 4 (by decide), if_true]
    rw [hrest _ _ _ (by decide), e0, e1, e2, e3, e4, J.c0 (hall 0 (by decide)), J.c1 (hall 1 (by decide)), J.c2 (hall 2 (by decide)), h4]
    exact this
/-- The call of such a region: it returns, or it panics. -/
theorem wp_called {P : Program} {Q : Exit → Act → World → Prop} {K : Act → World → Prop} {o : Oper} {a : Act} {w : World} (f : FuncId) {fn : Func} (xs : Array Operand) (ts : Array TypeId)
    (hop : o.op = Op.call { callee := Callee.value (Operand.func f), args := xs, argTypes := ts }) (hf : P.funcs[f]? = some fn) (hname : (fn.name == "runtime.NumGoroutine") = false) (hb : fn.body.isNone = false) (vs : Array Value) (hx : xs.map a.eval = vs)
    {R : Ending → World → Prop} (hc : Calls P f vs w R) (hk : ∀ v w', R (.returned v) w' → K (a.put o.dst v) w') (hp : ∀ ch w', R (.panicked ch) w' → Q (.panic ch) a w') (ho : ∀ w', ¬ R .outgrown w') : Oper.wp P o a w K Q := by
  unfold Oper.wp
  have h1 : fn.name ≠ "runtime.NumGoroutine" := by simpa using hname
  have hev : a.eval (Operand.func f) = .func (.func f) #[] #[] := rfl
  have h2 : ¬ (fn.body = none) := by intro h; simp [h] at hb
  have hrun : (execOp a.eval o).run P w = .ok (.enter f vs) w := by
    simp [execOp, hop, resolve, hev, Deferred.ofValue, invoke, hx, callFunc, hf, h1, h2]
  rw [hrun, Oper.upon_enter]
  refine hc.mono fun e w' h => ?_
  cases e with
  | returned v => exact hk v w' h
  | panicked ch => exact hp ch w' h
  | outgrown => exact absurd h (ho w')
end
end Go.Proofs.YtljibkfbldjgdaaGreatDoor
