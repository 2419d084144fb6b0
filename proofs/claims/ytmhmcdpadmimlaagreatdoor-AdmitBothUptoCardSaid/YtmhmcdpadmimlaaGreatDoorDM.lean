/- The walk of AdmitBoth. -/
import Derived.Test.YtmhmcdpadmimlaaGreatDoorDK
import Derived.Test.YtmhmcdpadmimlaaGreatDoorDG
import Derived.BigQuiet
import Derived.Lib.QuietBelow
namespace Go.Proofs.YtmhmcdpadmimlaaGreatDoor
open Go.RowKit Go.Sort
set_option linter.unusedVariables false

theorem keepS_mid {o : Int} (g h : Bool) (h1 : 1 ≤ o) (h5 : o ≤ 5) : keepS o g h h = if h = g then (false, true) else (true, false) := by
  rcases keep_cases o g h h with ⟨h', _⟩ | ⟨_, h', _⟩ | ⟨h', _⟩ | ⟨_, _, e⟩
  · omega
  · omega
  · omega
  · rw [e, if_pos rfl]
set_option maxRecDepth 20000 in
set_option maxHeartbeats 2000000 in
theorem AdmitBoth_same (x y : UInt32) (p q : UInt8) (m : Bool) (w : World) (hxy : x.toNat = y.toNat) (hT : Tab w) (hD : Deb w) (hV : Vars w) :
    Calls Tryz.prog 5 #[.agg #[.int .u32 (x.toNat : Int), .int .u32 (y.toNat : Int)], .agg #[.int .u8 (p.toNat : Int), .int .u8 (q.toNat : Int)], .bool m] w fun e w' => e = .returned (.bool true) ∧ Ext w w' := by
  have mixed : Tryz.prog.follows Departure.mixedOrders = true := by kernel_rfl
  have qw := fun W => Wins_any x y W
  rw [decide_eq_false (show ¬ y.toNat < x.toNat by omega)] at qw
  have qz := fun W (h : Ext w W) => LWorks21 W (hT.ext h) (hD.ext h) (hV.ext h)
  have b1 : ((x.toNat : Int) == (y.toNat : Int)) = true := by rw [beq_iff_eq]; omega
  clear hT hD hV hxy
  replace qw := hide qw
  replace qz := hide qz
  go_enter Tryz.func5, Tryz.ntmps5
  have A := (Blk.new w 47 #[.int .u32 (x.toNat : Int), .int .u32 (y.toNat : Int)]).alloc (Obj.cells #[.int .u8 (p.toNat : Int), .int .u8 (q.toNat : Int)] 48)
  have B := Blk.new (w.alloc (Obj.cells #[.int .u32 (x.toNat : Int), .int .u32 (y.toNat : Int)] 47)) 48 #[.int .u8 (p.toNat : Int), .int .u8 (q.toNat : Int)]
  have E := ((Ext.refl w).alloc (Obj.cells #[.int .u32 (x.toNat : Int), .int .u32 (y.toNat : Int)] 47)).alloc (Obj.cells #[.int .u8 (p.toNat : Int), .int .u8 (q.toNat : Int)] 48)
  rw [show (w.alloc (Obj.cells #[.int .u32 (x.toNat : Int), .int .u32 (y.toNat : Int)] 47)).heap.size = w.heap.size + 1 by simp] at B
  generalize hW0 : (w.alloc (Obj.cells #[.int .u32 (x.toNat : Int), .int .u32 (y.toNat : Int)] 47)).alloc (Obj.cells #[.int .u8 (p.toNat : Int), .int .u8 (q.toNat : Int)] 48) = W0 at A B E
  generalize hg0 : w.heap.size = g0 at A B
  replace A := hide A
  replace B := hide B
  replace E := hide E
  have A_0 : W0.cell? ⟨g0, 0, none⟩ = some (.int .u32 (x.toNat : Int)) := A.out.cell 0
  have A_1 : W0.cell? ⟨g0, 1, none⟩ = some (.int .u32 (y.toNat : Int)) := A.out.cell 1
  go_upto_region 1 with fail
  go_quiet (fail)
  go_wp2_with fail
  clear hW0
  refine (qw.out _).mono ?_
  rintro e w_ ⟨rfl, rfl⟩
  go_wp2_with fail
  refine (qz.out _ (by first | exact E.out.drewN _ | exact (E.out.drewN _).drewN _)).mono ?_
  rintro e w_ ⟨rfl, E2⟩
  go_wp2
  go_ret
  exact ⟨rfl, Ext.trans (by first | exact E.out.drewN _ | exact (E.out.drewN _).drewN _) E2⟩
set_option maxRecDepth 20000 in
set_option maxHeartbeats 2000000 in
theorem AdmitBoth_not (x y : UInt32) (p q : UInt8) (m a : Bool) (w : World) (hne : x.toNat ≠ y.toNat) (ha : decide (y.toNat < x.toNat) = a) (hb : decide (x.toNat < y.toNat) = !a) (hT : Tab w) (hD : Deb w) (hV : Vars w) :
    Calls Tryz.prog 5 #[.agg #[.int .u32 (x.toNat : Int), .int .u32 (y.toNat : Int)], .agg #[.int .u8 (p.toNat : Int), .int .u8 (q.toNat : Int)], .bool m] w fun e w' => e = .returned (.bool true) ∧ Ext w w' := by
  have mixed : Tryz.prog.follows Departure.mixedOrders = true := by kernel_rfl
  have qw := fun W => Wins_any x y W
  have qv := fun W => Wins_any y x W
  rw [ha] at qw
  rw [hb] at qv
  have qk := fun (o : Int) (g h : Bool) (W : World) (h1 : 1 ≤ o) (h5 : o ≤ 5) => by
    have c := Keep_any o g h h W
    rw [keepS_mid g h h1 h5] at c
    exact c
  have qz := fun W (h : Ext w W) => LWorks21 W (hT.ext h) (hD.ext h) (hV.ext h)
  have b1 : ((x.toNat : Int) == (y.toNat : Int)) = false := by rw [beq_eq_false_iff_ne]; omega
  clear hT hD hV ha hb hne
  have h0p : 0 ≤ (p.toNat : Int) % 5 := by omega
  have h5p : (p.toNat : Int) % 5 < 5 := by omega
  have h0q : 0 ≤ (q.toNat : Int) % 5 := by omega
  have h5q : (q.toNat : Int) % 5 < 5 := by omega
  replace qw := hide qw
  replace qv := hide qv
  replace qk := hide qk
  replace qz := hide qz
  cases a <;> cases m
  all_goals
    go_enter Tryz.func5, Tryz.ntmps5
    have A := (Blk.new w 47 #[.int .u32 (x.toNat : Int), .int .u32 (y.toNat : Int)]).alloc (Obj.cells #[.int .u8 (p.toNat : Int), .int .u8 (q.toNat : Int)] 48)
    have B := Blk.new (w.alloc (Obj.cells #[.int .u32 (x.toNat : Int), .int .u32 (y.toNat : Int)] 47)) 48 #[.int .u8 (p.toNat : Int), .int .u8 (q.toNat : Int)]
    have E := ((Ext.refl w).alloc (Obj.cells #[.int .u32 (x.toNat : Int), .int .u32 (y.toNat : Int)] 47)).alloc (Obj.cells #[.int .u8 (p.toNat : Int), .int .u8 (q.toNat : Int)] 48)
    rw [show (w.alloc (Obj.cells #[.int .u32 (x.toNat : Int), .int .u32 (y.toNat : Int)] 47)).heap.size = w.heap.size + 1 by simp] at B
    generalize hW0 : (w.alloc (Obj.cells #[.int .u32 (x.toNat : Int), .int .u32 (y.toNat : Int)] 47)).alloc (Obj.cells #[.int .u8 (p.toNat : Int), .int .u8 (q.toNat : Int)] 48) = W0 at A B E
    generalize hg0 : w.heap.size = g0 at A B
    replace A := hide A
    replace B := hide B
    replace E := hide E
    have A_0 : W0.cell? ⟨g0, 0, none⟩ = some (.int .u32 (x.toNat : Int)) := A.out.cell 0
    have A_1 : W0.cell? ⟨g0, 1, none⟩ = some (.int .u32 (y.toNat : Int)) := A.out.cell 1
    go_upto_region 1 with fail
    go_quiet (fail)
    go_upto_region 4 with fail
    clear A_0 A_1
    have B_0 : W0.cell? ⟨g0 + 1, 0, none⟩ = some (.int .u8 (p.toNat : Int)) := B.out.cell 0
    have B_1 : W0.cell? ⟨g0 + 1, 1, none⟩ = some (.int .u8 (q.toNat : Int)) := B.out.cell 1
    go_quiet (fail)
    go_wp2_with fail
    clear hW0
    refine (qw.out _).mono ?_
    rintro e w_ ⟨rfl, rfl⟩
    go_wp2_with fail
    refine (qv.out _).mono ?_
    rintro e w_ ⟨rfl, rfl⟩
    go_wp2_with fail
    refine (qk.out _ _ _ _ ?_ ?_).mono ?_
    · omega
    · omega
    rintro e w_ ⟨rfl, rfl⟩
    go_wp2_with fail
    refine (qk.out _ _ _ _ ?_ ?_).mono ?_
    · omega
    · omega
    rintro e w_ ⟨rfl, rfl⟩
    go_wp2_with fail
    refine (qk.out _ _ _ _ ?_ ?_).mono ?_
    · omega
    · omega
    rintro e w_ ⟨rfl, rfl⟩
    go_wp2_with fail
    refine (qz.out _ (by first | exact E.out.drewN _ | exact (E.out.drewN _).drewN _)).mono ?_
    rintro e w_ ⟨rfl, E2⟩
    go_wp2
    go_ret
    exact ⟨rfl, Ext.trans (by first | exact E.out.drewN _ | exact (E.out.drewN _).drewN _) E2⟩
theorem AdmitBoth_walk (x y : UInt32) (p q : UInt8) (m : Bool) (w : World) (hT : Tab w) (hD : Deb w) (hV : Vars w) :
    Calls Tryz.prog 5 #[.agg #[.int .u32 (x.toNat : Int), .int .u32 (y.toNat : Int)], .agg #[.int .u8 (p.toNat : Int), .int .u8 (q.toNat : Int)], .bool m] w fun e w' => e = .returned (.bool true) ∧ Ext w w' := by
  rcases Nat.lt_trichotomy x.toNat y.toNat with h | h | h
  · exact AdmitBoth_not x y p q m false w (by omega) (decide_eq_false (by omega)) (decide_eq_true (by omega)) hT hD hV
  · exact AdmitBoth_same x y p q m w h hT hD hV
  · exact AdmitBoth_not x y p q m true w (by omega) (decide_eq_true (by omega)) (decide_eq_false (by omega)) hT hD hV
end Go.Proofs.YtmhmcdpadmimlaaGreatDoor
