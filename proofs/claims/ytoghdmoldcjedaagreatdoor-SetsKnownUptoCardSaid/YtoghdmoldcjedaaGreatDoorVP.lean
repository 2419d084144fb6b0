/- Walks: may a set be, has it a community, by the document; sets.Comm. -/
import Derived.Test.YtoghdmoldcjedaaGreatDoorVH
import Derived.Test.YtoghdmoldcjedaaGreatDoorW1
import Derived.Test.YtoghdmoldcjedaaGreatDoorP15
import Derived.Test.YtoghdmoldcjedaaGreatDoorP9
namespace Go.Proofs.YtoghdmoldcjedaaGreatDoor
open Go.RowKit Go.Sort
set_option linter.unusedVariables false

theorem nameCh_cases (c : UInt8) : ∃ b1 b2 b3 b4 b5 r : Bool, decide ((97 : Int) ≤ (c.toNat : Int)) = b1 ∧ decide ((c.toNat : Int) ≤ 122) = b2 ∧ decide ((48 : Int) ≤ (c.toNat : Int)) = b3 ∧ decide ((c.toNat : Int) ≤ 57) = b4 ∧ ((c.toNat : Int) == 45) = b5 ∧ nameCh c = r ∧ ((b1 && b2) || ((b3 && b4) || b5)) = r := by
  refine ⟨_, _, _, _, _, _, rfl, rfl, rfl, rfl, rfl, rfl, ?_⟩
  unfold nameCh runeOk
  rw [show decide ((97 : Int) ≤ (c.toNat : Int)) = decide (97 ≤ c.toNat) from decide_eq_decide.2 (by omega), show decide ((c.toNat : Int) ≤ 122) = decide (c.toNat ≤ 122) from decide_eq_decide.2 (by omega), show decide ((48 : Int) ≤ (c.toNat : Int)) = decide (48 ≤ c.toNat) from decide_eq_decide.2 (by omega), show decide ((c.toNat : Int) ≤ 57) = decide (c.toNat ≤ 57) from decide_eq_decide.2 (by omega)]
  rw [show ((c.toNat : Int) == 45) = decide (c.toNat = 45) by rw [Bool.eq_iff_iff, beq_iff_eq, decide_eq_true_eq]; omega]
theorem allN_succ (s : List UInt8) (k : Nat) (hk : k < s.length) : (s.take (k + 1)).all nameCh = ((s.take k).all nameCh && nameCh s[k]) := by
  rw [List.take_succ_eq_append_getElem hk, List.all_append, List.all_cons, List.all_nil, Bool.and_true]
set_option maxRecDepth 20000 in
set_option maxHeartbeats 2000000 in
theorem RName_any (s : List UInt8) (w : World) : Calls Tryz.prog 83 #[.string ⟨s.toArray⟩] w fun e w' => e = .returned (.bool (nameOk s)) ∧ w = w' := by
  have hz : (ByteArray.mk s.toArray).size = s.length := by simp [ByteArray.size]
  cases s with
  | nil =>
    go_enter Tryz.func83, Tryz.ntmps83
    go_wp2
    go_ret
    exact ⟨rfl, rfl⟩
  | cons x t =>
    have hix := ba_index0 (x :: t) x t rfl
    have hdef : nameOk (x :: t) = (decide ((x :: t).length ≤ 16) && (decide (97 ≤ x.toNat) && (x :: t).all nameCh)) := by
      unfold nameOk
      rw [decide_eq_true (p := 1 ≤ (x :: t).length) (by simp), Bool.true_and]
      rfl
    have hlen : 1 ≤ (x :: t).length := by simp
    have hhd : ∀ h : 0 < (x :: t).length, (x :: t)[0] = x := fun _ => rfl
    generalize hs : x :: t = s at *
    have e1 : decide ((s.length : Int) < 1) = false := decide_eq_false (by omega)
    by_cases h16 : 16 < s.length
    · have e2 : decide ((16 : Int) < (s.length : Int)) = true := decide_eq_true (by omega)
      have hr := hide (show nameOk s = false by rw [hdef, decide_eq_false (by omega), Bool.false_and])
      clear h16 hdef hs hhd
      go_enter Tryz.func83, Tryz.ntmps83
      go_wp2
      go_ret
      exact ⟨ret_bool hr.out.symm, rfl⟩
    have e2 : decide ((16 : Int) < (s.length : Int)) = false := decide_eq_false (by omega)
    rw [decide_eq_true (p := s.length ≤ 16) (by omega), Bool.true_and] at hdef
    by_cases h97 : x.toNat < 97
    · have e3 : decide ((x.toNat : Int) < 97) = true := decide_eq_true (by omega)
      have hr := hide (show nameOk s = false by rw [hdef, decide_eq_false (by omega), Bool.false_and])
      clear h16 hdef hs hhd h97
      go_enter Tryz.func83, Tryz.ntmps83
      go_wp2
      go_ret
      exact ⟨ret_bool hr.out.symm, rfl⟩
    have e3 : decide ((x.toNat : Int) < 97) = false := decide_eq_false (by omega)
    rw [decide_eq_true (p := 97 ≤ x.toNat) (by omega), Bool.true_and] at hdef
    by_cases h122 : 122 < x.toNat
    · have e4 : decide ((122 : Int) < (x.toNat : Int)) = true := decide_eq_true (by omega)
      have hr := hide (show nameOk s = false by
        rw [hdef, ← hs, List.all_cons]
        have : nameCh x = false := by unfold nameCh runeOk; simp; omega
        rw [this, Bool.false_and])
      clear h16 hdef hs hhd h97 h122
      go_enter Tryz.func83, Tryz.ntmps83
      go_wp2
      go_ret
      exact ⟨ret_bool hr.out.symm, rfl⟩
    have e4 : decide ((122 : Int) < (x.toNat : Int)) = false := decide_eq_false (by omega)
    have hle : s.length ≤ 16 := by omega
    clear hs hhd h16 h97 h122
    replace hdef := hide hdef
    go_enter Tryz.func83, Tryz.ntmps83
    go_wp2
    clear hix e1 e2 e3 e4
    go_loop [3] (fun i => ∃ k : Nat, k ≤ s.length ∧ i = .int .i64 k ∧ (s.take k).all nameCh = true) (fun i => s.length - (intOf i).toNat)
    case atStart => exact ⟨0, Nat.zero_le _, rfl, rfl⟩
    case round =>
      obtain ⟨k, hk, rfl, ha⟩ := hrel
      by_cases hlt : k < s.length
      · have e1 : (ByteArray.mk s.toArray)[k]'(by rw [hz]; exact hlt) = s[k] := rfl
        have hsu := allN_succ s k hlt
        rw [ha, Bool.true_and] at hsu
        have hbad : nameCh s[k] = false → nameOk s = false := fun h => by
          rw [hdef.out, List.all_eq_false]
          exact ⟨s[k], List.getElem_mem hlt, by rw [h]; decide⟩
        obtain ⟨b1, b2, b3, b4, b5, r, d1, d2, d3, d4, d5, d6, d7⟩ := nameCh_cases s[k]
        rw [d6] at hsu hbad
        clear d6 ha
        generalize s[k] = c at *
        replace hsu := hide hsu
        replace hbad := hide hbad
        cases b1 <;> cases b2 <;> cases b3 <;> cases b4 <;> cases b5 <;> subst d7 <;> first
          | (go_wp2; go_round; (case rel => exact ⟨k + 1, by omega, by go_num, hsu.out⟩); (case measure => simp [intOf]; omega))
          | (go_wp2; go_ret; exact ⟨ret_bool (hbad.out rfl).symm, rfl⟩)
      · obtain rfl : k = s.length := by omega
        have hr := hide (show nameOk s = true by rw [hdef.out]; rwa [List.take_length] at ha)
        clear ha
        go_wp2
        go_ret
        exact ⟨ret_bool hr.out.symm, rfl⟩

set_option maxRecDepth 20000 in
set_option maxHeartbeats 2000000 in
theorem RMayC_any (a : Option Addr) (c : Nat) (l : List UInt32) (w : World) (hl : l.length ≤ 16777216) (hs : Sl EU32 w (· < w.heap.size) a l) :
    Calls Tryz.prog 86 #[.slice a l.length c] w fun e w' => e = .returned (.bool (commsOk l)) ∧ Ext w w' := by
  replace hs := hide hs
  go_enter Tryz.func86, Tryz.ntmps86
  go_wp2
  go_loopw [3] (fun i wr => ∃ j : Nat, (j ≤ l.length) ∧ i = .int .i64 ((j : Int) + 1) ∧ Ext w wr ∧ ∀ m (h : m + 1 < l.length), m < j → l[m].toNat < l[m + 1].toNat) (fun i _ => l.length + 1 - (intOf i).toNat)
  case atStart => exact ⟨0, Nat.zero_le _, rfl, Ext.refl _, fun m _ h => by omega⟩
  case round =>
    obtain ⟨j, hj, rfl, E, ha⟩ := hrel
    by_cases hlt : j + 1 < l.length
    · obtain ⟨b, off, rfl, _, x0⟩ := EU32.at (hs.out.ext E) j (by omega)
      obtain ⟨b', off', he, _, x1⟩ := EU32.at (hs.out.ext E) (j + 1) hlt
      injection he with he
      injection he with h1 h2 _
      subst h1 h2
      have e1 : decide ((j : Int) + 1 < (l.length : Int)) = true := decide_eq_true (by omega)
      have hbad := fun h => risU_bad hlt h
      have hnx : l[j].toNat < l[j + 1].toNat → ∀ m (h : m + 1 < l.length), m < j + 1 → l[m].toNat < l[m + 1].toNat := fun h m hm hmj => by
        rcases Nat.lt_or_ge m j with h3 | h3
        · exact ha m hm h3
        · obtain rfl : m = j := by omega
          exact h
      have hj0 : ((j : Int) + 1).toNat = j + 1 := by omega
      generalize l[j].toNat = y at *
      generalize l[j + 1].toNat = z at *
      clear ha
      by_cases hyz : y < z
      · have e2 : decide ((z : Int) ≤ (y : Int)) = false := decide_eq_false (by omega)
        have hn := hide (hnx hyz)
        have e3 : ¬ (z ≤ y) := by omega
        clear hnx hbad hyz
        replace E := hide E
        go_wp2_with fail
        go_region
        go_wp2
        go_roundw
        case rel => exact ⟨j + 1, by omega, by go_num, E.out.drew, hn.out⟩
        case measure => simp [intOf]; omega
      · have e2 : decide ((z : Int) ≤ (y : Int)) = true := decide_eq_true (by omega)
        have hb := hide (hbad hyz)
        have e3 : z ≤ y := by omega
        clear hnx hbad hyz
        replace E := hide E
        go_wp2_with fail
        go_region
        go_wp2
        go_ret
        exact ⟨ret_bool hb.out.symm, E.out.drew⟩
    · have e1 : decide ((j : Int) + 1 < (l.length : Int)) = false := decide_eq_false (by omega)
      have hr : commsOk l = decide (l.length ≤ 64) := by
        unfold commsOk
        rw [(risU_iff l).2 fun i h => ha i h (by omega), Bool.true_and]
      have e2 : decide ((l.length : Int) ≤ 64) = commsOk l := by rw [hr]; exact decide_eq_decide.2 (by omega)
      clear hr ha
      replace E := hide E
      go_wp2
      go_ret
      exact ⟨rfl, E.out⟩

set_option maxHeartbeats 1000000 in
theorem RHasC_any (a : Option Addr) (c : Nat) (l : List UInt32) (x : UInt32) (w : World) (hl : l.length ≤ 16777216) (hs : Sl EU32 w (· < w.heap.size) a l) :
    Calls Tryz.prog 59 #[.slice a l.length c, .int .u32 (x.toNat : Int)] w fun e w' => e = .returned (.bool (l.contains x)) ∧ Ext w w' := by
  replace hs := hide hs
  go_enter Tryz.func59, Tryz.ntmps59
  go_wp2
  go_loopw [5] (fun i wr => ∃ k : Nat, k ≤ l.length ∧ i = .int .i64 k ∧ Ext w wr ∧ (l.take k).contains x = false) (fun i _ => l.length - (intOf i).toNat)
  case atStart => exact ⟨0, Nat.zero_le _, rfl, Ext.refl _, rfl⟩
  case round =>
    obtain ⟨k, hk, rfl, E, ha⟩ := hrel
    by_cases hlt : k < l.length
    · obtain ⟨b, off, rfl, _, h0⟩ := EU32.at (hs.out.ext E) k hlt
      have hb := u32_beq l[k] x
      have hyes : l[k] = x → l.contains x = true := fun h => by rw [← h]; simp
      have hno : l[k] ≠ x → (l.take (k + 1)).contains x = false := fun h => by
        rw [List.take_succ_eq_append_getElem hlt]
        simp only [List.contains_eq_mem, decide_eq_false_iff_not, List.mem_append, List.mem_singleton, not_or] at ha ⊢
        exact ⟨ha, fun e => h e.symm⟩
      generalize l[k] = y at *
      by_cases hq : y = x
      · rw [show (y == x) = true by simpa using hq] at hb
        have hy := hide (hyes hq)
        clear hyes hno hq ha
        replace E := hide E
        go_wp2_with fail
        first | go_region | skip
        go_wp2
        go_ret
        exact ⟨ret_bool hy.out.symm, by first | exact E.out | exact E.out.drew⟩
      · rw [show (y == x) = false by simpa using hq] at hb
        have hn := hide (hno hq)
        clear hyes hno hq ha
        replace E := hide E
        go_wp2_with fail
        first | go_region | skip
        go_wp2
        go_roundw
        case rel => exact ⟨k + 1, by omega, by go_num, by first | exact E.out | exact E.out.drew, hn.out⟩
        case measure => simp [intOf]; omega
    · obtain rfl : k = l.length := by omega
      rw [List.take_length] at ha
      have hy := hide ha
      clear ha
      replace E := hide E
      go_wp2
      go_ret
      exact ⟨ret_bool hy.out.symm, E.out⟩

/-! ### functions over lists of numbers -/
set_option maxHeartbeats 1000000 in
theorem IdxU_any (g : Nat) (lb : Array Value) (eg : ∀ args w, (callFunc g args).run Tryz.prog w = .ok (.enter g args) w) (pr : UInt32 → Bool) (a : Option Addr) (c : Nat) (l : List UInt32) (w : World) (hl : l.length ≤ 16777216) (hs : Sl EU32 w (· < w.heap.size) a l)
    (hq : ∀ x ∈ l, ∀ W, Ext w W → Calls Tryz.prog g (#[.int .u32 (x.toNat : Int)] ++ lb) W fun e w' => e = .returned (.bool (pr x)) ∧ Ext W w') :
    Calls Tryz.prog 89 #[.slice a l.length c, .func (.func g) #[] lb] w fun e w' => e = .returned (.int .i64 (idxT pr l)) ∧ Ext w w' := by
  replace hs := hide hs
  replace hq := hide hq
  go_enter Tryz.func89, Tryz.ntmps89
  go_wp2
  go_loopw [8] (fun i wr => ∃ k : Nat, k ≤ l.length ∧ i = .int .i64 k ∧ Ext w wr ∧ (l.take k).any pr = false) (fun i _ => l.length - (intOf i).toNat)
  case atStart => exact ⟨0, Nat.zero_le _, rfl, Ext.refl _, rfl⟩
  case round =>
    obtain ⟨k, hk, rfl, he, ha⟩ := hrel
    replace ha := hide ha
    replace he := hide he
    by_cases hlt : k < l.length
    · obtain ⟨b, off, rfl, _, x0⟩ := EU32.at (hs.out.ext he.out) k hlt
      have q := hq.out l[k] (List.getElem_mem hlt) wr he.out
      have hyes := fun h => idxT_at (pr := pr) hlt h ha.out
      have hno := fun h => any_take (pr := pr) hlt h ha.out
      generalize pr l[k] = r at q hyes hno
      generalize l[k].toNat = n at *
      replace q := hide q
      replace hyes := hide hyes
      replace hno := hide hno
      go_wp2_with (go_at_fn g; refine q.out.mono ?_; rintro e W1 ⟨rfl, he1⟩; replace he1 := hide (he.out.trans he1); cases r)
      case roundEnd =>
        go_roundw
        case rel => exact ⟨k + 1, by omega, by go_num, he1.out, hno.out (by trivial)⟩
        case measure => simp [intOf]; omega
      all_goals
        go_ret
        exact ⟨ret_int (hyes.out (by trivial)).symm, he1.out⟩
    · have hend : idxT pr l = -1 := idxT_none (by
        obtain rfl : k = l.length := by omega
        have := ha.out
        rwa [List.take_length] at this)
      replace hend := hide hend
      go_wp2
      go_ret
      exact ⟨ret_int hend.out.symm, he.out⟩
set_option maxHeartbeats 1000000 in
theorem HasU_any (g : Nat) (lb : Array Value) (eg : ∀ args w, (callFunc g args).run Tryz.prog w = .ok (.enter g args) w) (pr : UInt32 → Bool) (a : Option Addr) (c : Nat) (l : List UInt32) (w : World) (hl : l.length ≤ 16777216) (hs : Sl EU32 w (· < w.heap.size) a l)
    (hq : ∀ x ∈ l, ∀ W, Ext w W → Calls Tryz.prog g (#[.int .u32 (x.toNat : Int)] ++ lb) W fun e w' => e = .returned (.bool (pr x)) ∧ Ext W w') :
    Calls Tryz.prog 56 #[.slice a l.length c, .func (.func g) #[] lb] w fun e w' => e = .returned (.bool (l.any pr)) ∧ Ext w w' := by
  have q := IdxU_any g lb eg pr a c l w hl hs hq
  have hd := idxT_any pr l
  generalize idxT pr l = r at q hd
  generalize l.any pr = y at hd ⊢
  clear hs hq
  replace q := hide q
  go_enter Tryz.func56, Tryz.ntmps56
  go_wp2_with fail
  refine q.out.mono ?_
  rintro e W1 ⟨rfl, he⟩
  replace he := hide he
  go_wp2
  go_ret
  exact ⟨rfl, he.out⟩
set_option maxHeartbeats 1000000 in
theorem CHas_any (a : Option Addr) (c : Nat) (l : List UInt32) (x : UInt32) (w : World) (hl : l.length ≤ 16777216) (hs : Sl EU32 w (· < w.heap.size) a l) :
    Calls Tryz.prog 58 #[.slice a l.length c, .int .u32 (x.toNat : Int)] w fun e w' => e = .returned (.bool (l.contains x)) ∧ Ext w w' := by
  have q := Contains_any a c l x w _ hl hs
  generalize l.contains x = r at q ⊢
  generalize l.length = n at *
  generalize x.toNat = y at *
  clear hs hl
  replace q := hide q
  go_enter Tryz.func58, Tryz.ntmps58
  go_wp2_with fail
  refine q.out.mono ?_
  rintro e W1 ⟨rfl, rfl⟩
  go_wp2
  go_ret
  exact ⟨rfl, Ext.refl _⟩
set_option maxRecDepth 20000 in
set_option maxHeartbeats 1000000 in
theorem Comm1_any (nm0 : List UInt8) (kd : Int) (a1 : Option Addr) (n1 c1 : Nat) (a2 : Option Addr) (c2 : Nat) (l : List UInt32) (a3 : Option Addr) (n3 c3 : Nat) (x : UInt32) (gp : Nat) (w : World) (hl : l.length ≤ 16777216) (hs : Sl EU32 w (· < w.heap.size) a2 l) (hB : Blk w gp 27 #[.string ⟨nm0.toArray⟩, .int .i64 kd, .slice a1 n1 c1, .slice a2 l.length c2, .slice a3 n3 c3]) :
    Calls Tryz.prog 57 #[.int .u32 (x.toNat : Int), .pointer (some ⟨gp, 0, none⟩)] w fun e w' => e = .returned (.bool (l.contains x)) ∧ Ext w w' := by
  have q := CHas_any a2 c2 l x w hl hs
  have b3 : w.cell? ⟨gp, 3, none⟩ = some (.slice a2 l.length c2) := hB.cell 3
  generalize l.contains x = r at q ⊢
  generalize l.length = n at *
  generalize x.toNat = y at *
  clear hs hl hB
  replace q := hide q
  go_enter Tryz.func57, Tryz.ntmps57
  go_wp2_with fail
  refine q.out.mono ?_
  rintro e W1 ⟨rfl, E⟩
  clear b3
  replace E := hide E
  go_wp2
  go_ret
  exact ⟨rfl, E.out⟩
set_option maxRecDepth 20000 in
set_option maxHeartbeats 1000000 in
theorem SComm_any (s : StS) (b : Option Addr) (d : Nat) (l : List UInt32) (a1 : Option Addr) (c1 : Nat) (a2 : Option Addr) (c2 : Nat) (a3 : Option Addr) (c3 : Nat) (w : World) (hs : SetIn w (· < w.heap.size) s a1 a2 a3) (hl : l.length ≤ 16777216) (hsl : Sl EU32 w (· < w.heap.size) b l) :
    Calls Tryz.prog 19 #[.agg #[.string ⟨s.name.toArray⟩, .int .i64 s.kind, .slice a1 s.items.length c1, .slice a2 s.comms.length c2, .slice a3 s.paths.length c3], .slice b l.length d] w fun e w' => e = .returned (.bool (setCom s l)) ∧ Ext w w' := by
  have qi := fun W (h : Ext w W) => Is_any s 2 a1 c1 a2 c2 a3 c3 W (hs.ext h)
  have qh := fun gp W (h : Ext w W) (hB : Blk W gp 27 #[.string ⟨s.name.toArray⟩, .int .i64 s.kind, .slice a1 s.items.length c1, .slice a2 s.comms.length c2, .slice a3 s.paths.length c3]) => HasU_any 57 #[.pointer (some ⟨gp, 0, none⟩)] (fun _ _ => rfl) (fun c => s.comms.contains c) b d l W hl (hsl.ext h) (fun x _ W' hW => Comm1_any s.name s.kind a1 s.items.length c1 a2 c2 s.comms a3 s.paths.length c3 x gp W' hs.nComms (hs.comms.ext (h.trans hW)) (hB.ext hW))
  have hcs : ∃ ok b r : Bool, (decide (s.kind = 2) && setOk s) = ok ∧ (l.any fun c => s.comms.contains c) = b ∧ setCom s l = r ∧ (ok && b) = r := ⟨_, _, _, rfl, rfl, rfl, by unfold setCom; rw [Bool.and_comm (decide (s.kind = 2)), Bool.and_assoc]⟩
  obtain ⟨ok, bb, r, e1, e2, e3, hr⟩ := hcs
  rw [e1] at qi
  rw [e2] at qh
  rw [e3]
  clear e1 e2 e3 hs hl hsl
  obtain ⟨nm0, kd, items, comms, paths⟩ := s
  dsimp only at *
  generalize items.length = n1 at *
  generalize comms.length = n2 at *
  generalize paths.length = n3 at *
  generalize l.length = nl at *
  subst hr
  replace qi := hide qi
  replace qh := hide qh
  go_enter Tryz.func19, Tryz.ntmps19
  have S := Blk.new w 27 #[.string ⟨nm0.toArray⟩, .int .i64 kd, .slice a1 n1 c1, .slice a2 n2 c2, .slice a3 n3 c3]
  have E := (Ext.refl w).alloc (Obj.cells #[.string ⟨nm0.toArray⟩, .int .i64 kd, .slice a1 n1 c1, .slice a2 n2 c2, .slice a3 n3 c3] 27)
  generalize hW0 : w.alloc (Obj.cells #[.string ⟨nm0.toArray⟩, .int .i64 kd, .slice a1 n1 c1, .slice a2 n2 c2, .slice a3 n3 c3] 27) = W0 at S E
  generalize hg0 : w.heap.size = g0 at S
  replace S := hide S
  replace E := hide E
  have S_0 : W0.cell? ⟨g0, 0, none⟩ = some (.string ⟨nm0.toArray⟩) := S.out.cell 0
  have S_1 : W0.cell? ⟨g0, 1, none⟩ = some (.int .i64 kd) := S.out.cell 1
  have S_2 : W0.cell? ⟨g0, 2, none⟩ = some (.slice a1 n1 c1) := S.out.cell 2
  have S_3 : W0.cell? ⟨g0, 3, none⟩ = some (.slice a2 n2 c2) := S.out.cell 3
  have S_4 : W0.cell? ⟨g0, 4, none⟩ = some (.slice a3 n3 c3) := S.out.cell 4
  go_wp2_with fail
  refine (qi.out _ E.out).mono ?_
  rintro e W1 ⟨rfl, he_⟩
  clear S_0 S_1 S_2 S_3 S_4
  replace E := hide (E.out.trans he_)
  replace S := hide (S.out.ext he_)
  clear he_
  have S_0 : W1.cell? ⟨g0, 0, none⟩ = some (.string ⟨nm0.toArray⟩) := S.out.cell 0
  have S_1 : W1.cell? ⟨g0, 1, none⟩ = some (.int .i64 kd) := S.out.cell 1
  have S_2 : W1.cell? ⟨g0, 2, none⟩ = some (.slice a1 n1 c1) := S.out.cell 2
  have S_3 : W1.cell? ⟨g0, 3, none⟩ = some (.slice a2 n2 c2) := S.out.cell 3
  have S_4 : W1.cell? ⟨g0, 4, none⟩ = some (.slice a3 n3 c3) := S.out.cell 4
  clear hW0 hg0
  cases ok with
  | false =>
    go_wp2
    go_ret
    exact ⟨rfl, E.out⟩
  | true =>
    go_wp2_with fail
    refine (qh.out _ _ E.out S.out).mono ?_
    rintro e W2 ⟨rfl, he⟩
    replace E := hide (E.out.trans he)
    go_wp2
    go_ret
    exact ⟨rfl, E.out⟩
end Go.Proofs.YtoghdmoldcjedaaGreatDoor
