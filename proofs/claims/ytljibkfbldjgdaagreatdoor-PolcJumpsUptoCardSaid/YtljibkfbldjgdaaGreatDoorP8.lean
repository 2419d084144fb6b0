/- Walks: may a prefix be: prim.Check, addresses of 16 bytes. -/
import Derived.Test.YtljibkfbldjgdaaGreatDoorP4
namespace Go.Proofs.YtljibkfbldjgdaaGreatDoor
open Go.RowKit Go.Sort
set_option linter.unusedVariables false

set_option maxRecDepth 20000 in
set_option maxHeartbeats 4000000 in
theorem ACheck_16 (f R : Int) (rd : Nat) (hR : R = (rd : Int)) (a : List UInt8) (l : Int) (w : World) (hal : a.length ≤ 1048576) (hS : sizeS f = 16) :
    Calls Tryz.prog 144 #[.agg #[.int .i64 f, .int .u64 R, .string ⟨a.toArray⟩, .int .i64 l]] w fun e w' => e = .returned (.int .i64 (errP (MayP ⟨f, rd, a, l⟩))) ∧ Ext w w' := by
  have mixed : Tryz.prog.follows Departure.mixedOrders = true := by kernel_rfl
  have hbld : ∀ W, (Instr.build 70 #[]).run Tryz.prog W = .ok (.agg #[.int .i64 0, .int .u64 0, .string ⟨#[]⟩, .int .i64 0]) W := fun W => run_build W 70 _ _ (by kernel_rfl)
  have heg : ∀ x y xs ys W, (eqGuard .eql 70 x y (.agg xs) (.agg ys)).run Tryz.prog W = .ok () W := fun x y xs ys W => run_eqGuard_agg W .eql _ x y xs ys Tryz.eqGuardType70
  have hz : (ByteArray.mk a.toArray).size = a.length := by simp [ByteArray.size]
  have hf0 : f ≠ 0 := fun h => by rw [h] at hS; exact absurd hS (by decide)
  have heq : ∀ W, (binOp .eql 70 (.agg #[.int .i64 f, .int .u64 R, .string ⟨a.toArray⟩, .int .i64 l]) (.agg #[.int .i64 0, .int .u64 0, .string ⟨#[]⟩, .int .i64 0])).run Tryz.prog W = .ok (.bool false) W := fun W => by
    have := run_eqP W f 0 R 0 a [] l 0
    rw [decide_eq_false (fun h => hf0 h.1)] at this
    exact this
  have gw : IntKind.i64.wrap 128 = 128 := by decide
  replace hS := hide hS
  replace hR := hide hR
  by_cases h1 : (a.length : Int) ≠ 16
  · have he : errP (MayP ⟨f, rd, a, l⟩) = 2 := if_neg (fun h => h1 (h.1.2.1.trans hS.out))
    rw [he]
    have b1 : ((a.length : Int) != 16) = true := by simpa using h1
    replace he := hide he
    replace h1 := hide h1
    go_enter Tryz.func144, Tryz.ntmps144
    go_wp2_with fail
    refine (ASize_any _ _).mono ?_
    rw [hS.out]
    rintro e w1 ⟨rfl, rfl⟩
    go_wp2
    go_quiet (fail)
    go_wp2
    go_ret
    exact ⟨rfl, ((Ext.refl _).alloc _).drewN _⟩
  have b1 : ((a.length : Int) != 16) = false := by simpa using h1
  by_cases h2 : l < 0
  · have he : errP (MayP ⟨f, rd, a, l⟩) = 2 := if_neg (fun h => by have : 0 ≤ l := h.1.2.2.1; omega)
    rw [he]
    replace he := hide he
    replace h1 := hide h1
    go_enter Tryz.func144, Tryz.ntmps144
    go_wp2_with fail
    refine (ASize_any _ _).mono ?_
    rw [hS.out]
    rintro e w1 ⟨rfl, rfl⟩
    go_wp2
    go_quiet (fail)
    go_wp2
    go_ret
    exact ⟨rfl, ((Ext.refl _).alloc _).drewN _⟩
  have b2 : decide (l < 0) = false := by simpa using h2
  by_cases h3 : (128 : Int) < l
  · have he : errP (MayP ⟨f, rd, a, l⟩) = 2 := if_neg (fun h => by have h4 : l ≤ 8 * sizeS f := h.1.2.2.2.1; rw [hS.out] at h4; omega)
    rw [he]
    have b3 : decide ((128 : Int) < l) = true := by simpa using h3
    replace he := hide he
    replace h1 := hide h1
    go_enter Tryz.func144, Tryz.ntmps144
    go_wp2_with fail
    refine (ASize_any _ _).mono ?_
    rw [hS.out]
    rintro e w1 ⟨rfl, rfl⟩
    go_wp2
    go_quiet (fail)
    go_wp2
    go_ret
    exact ⟨rfl, ((Ext.refl _).alloc _).drewN _⟩
  have b3 : decide ((128 : Int) < l) = false := by simpa using h3
  by_cases h4 : rd ≠ 0 ∧ apartS f = false
  · have he : errP (MayP ⟨f, rd, a, l⟩) = 2 := if_neg (fun h => by rcases (h.1.2.2.2.2 : rd = 0 ∨ apartS f = true) with h5 | h5; exact h4.1 h5; rw [h4.2] at h5; cases h5)
    rw [he]
    have b4 : (R != 0) = true := by have := hR.out; have := h4.1; simp; omega
    have hap := h4.2
    replace he := hide he
    replace h1 := hide h1
    replace h4 := hide h4
    go_enter Tryz.func144, Tryz.ntmps144
    go_wp2_with fail
    refine (ASize_any _ _).mono ?_
    rw [hS.out]
    rintro e w1 ⟨rfl, rfl⟩
    go_wp2
    go_quiet ((go_at_call 171; exact quiet_apart _ _ _))
    go_wp2
    go_ret
    exact ⟨rfl, ((Ext.refl _).alloc _).drewN _⟩
  have h9 : rd = 0 ∨ apartS f = true := by
    by_cases h5 : rd = 0
    · exact .inl h5
    · exact .inr (by cases hh : apartS f with | true => rfl | false => exact absurd ⟨h5, hh⟩ h4)
  have hform : formP ⟨f, rd, a, l⟩ := ⟨by rw [hS.out]; decide, by rw [hS.out]; simpa using h1, by show 0 ≤ l; omega, by rw [hS.out]; show l ≤ _; omega, h9⟩
  have hmk := fun W => masked_any a l W (by omega) (by omega) (by omega) (by omega)
  have he : (a = maskS a l ∧ errP (MayP ⟨f, rd, a, l⟩) = 0) ∨ (maskS a l ≠ a ∧ errP (MayP ⟨f, rd, a, l⟩) = 2) := by
    by_cases hm : maskS a l = a
    · exact .inl ⟨hm.symm, if_pos ⟨hform, hm⟩⟩
    · exact .inr ⟨hm, if_neg fun h => hm h.2⟩
  generalize errP (MayP ⟨f, rd, a, l⟩) = E at he
  generalize maskS a l = t at he hmk
  replace h1 := hide h1
  replace h4 := hide h4
  replace hform := hide hform
  obtain ⟨k0, k1, k2, k3⟩ := regrown_cells w f R ⟨a.toArray⟩ l 70
  have cM : ∀ d os, Calls Tryz.prog 172 #[.string ⟨a.toArray⟩, .int .i64 l] (grow (redrawn (w.alloc (.cells #[.int .i64 f, .int .u64 R, .string ⟨a.toArray⟩, .int .i64 l] 70)) d) os) fun e w'' => e = .returned (.string ⟨t.toArray⟩) ∧ ∃ p : Regrown, w'' = grow (redrawn (w.alloc (.cells #[.int .i64 f, .int .u64 R, .string ⟨a.toArray⟩, .int .i64 l] 70)) p.d) p.os := fun d os => Calls.regrown_of (hmk _)
  have cP : ∀ d os, Calls Tryz.prog 171 #[.int .i64 f] (grow (redrawn (w.alloc (.cells #[.int .i64 f, .int .u64 R, .string ⟨a.toArray⟩, .int .i64 l] 70)) d) os) fun e w'' => e = .returned (.bool (apartS f)) ∧ ∃ p : Regrown, w'' = grow (redrawn (w.alloc (.cells #[.int .i64 f, .int .u64 R, .string ⟨a.toArray⟩, .int .i64 l] 70)) p.d) p.os := fun d os => regrown_same (Aapart_any _ _)
  clear hmk
  by_cases h5 : rd = 0
  · obtain rfl : R = 0 := by rw [hR.out, h5]; rfl
    replace h5 := hide h5
    replace h9 := hide h9
    rcases he with ⟨rfl, rfl⟩ | ⟨hne, rfl⟩
    · go_enter Tryz.func144, Tryz.ntmps144
      go_wp2_with fail
      refine (ASize_any _ _).mono ?_
      rw [hS.out]
      rintro e w1 ⟨rfl, rfl⟩
      go_wp2
      refine wp_region_quiet_below (by assumption) (by kernel_rfl) ?_
      repeat (quiet_step (first | exact cP _ _ | exact cM _ _))
      refine wpQuiet_nil ?_
      intro _ hw'
      obtain ⟨⟨dq, osq⟩, hw''⟩ := hw'
      subst hw''
      go_wp2
      go_ret
      exact ⟨rfl, ((Ext.refl _).alloc _).trans (below_regrown _ dq osq)⟩
    · have b5 : (t == a) = false := beq_eq_false_iff_ne.2 hne
      have b6 : (t != a) = true := bne_iff_ne.2 hne
      replace hne := hide hne
      go_enter Tryz.func144, Tryz.ntmps144
      go_wp2_with fail
      refine (ASize_any _ _).mono ?_
      rw [hS.out]
      rintro e w1 ⟨rfl, rfl⟩
      go_wp2
      refine wp_region_quiet_below (by assumption) (by kernel_rfl) ?_
      repeat (quiet_step (first | exact cP _ _ | exact cM _ _))
      refine wpQuiet_nil ?_
      intro _ hw'
      obtain ⟨⟨dq, osq⟩, hw''⟩ := hw'
      subst hw''
      go_wp2
      go_ret
      exact ⟨rfl, ((Ext.refl _).alloc _).trans (below_regrown _ dq osq)⟩
  · have b4 : (R != 0) = true := by have := hR.out; simp; omega
    have hap : apartS f = true := by rcases h9 with h | h; exact absurd h h5; exact h
    rw [hap] at cP
    replace h5 := hide h5
    replace h9 := hide h9
    rcases he with ⟨rfl, rfl⟩ | ⟨hne, rfl⟩
    · go_enter Tryz.func144, Tryz.ntmps144
      go_wp2_with fail
      refine (ASize_any _ _).mono ?_
      rw [hS.out]
      rintro e w1 ⟨rfl, rfl⟩
      go_wp2
      refine wp_region_quiet_below (by assumption) (by kernel_rfl) ?_
      repeat (quiet_step (first | exact cP _ _ | exact cM _ _))
      refine wpQuiet_nil ?_
      intro _ hw'
      obtain ⟨⟨dq, osq⟩, hw''⟩ := hw'
      subst hw''
      go_wp2
      go_ret
      exact ⟨rfl, ((Ext.refl _).alloc _).trans (below_regrown _ dq osq)⟩
    · have b5 : (t == a) = false := beq_eq_false_iff_ne.2 hne
      have b6 : (t != a) = true := bne_iff_ne.2 hne
      replace hne := hide hne
      go_enter Tryz.func144, Tryz.ntmps144
      go_wp2_with fail
      refine (ASize_any _ _).mono ?_
      rw [hS.out]
      rintro e w1 ⟨rfl, rfl⟩
      go_wp2
      refine wp_region_quiet_below (by assumption) (by kernel_rfl) ?_
      repeat (quiet_step (first | exact cP _ _ | exact cM _ _))
      refine wpQuiet_nil ?_
      intro _ hw'
      obtain ⟨⟨dq, osq⟩, hw''⟩ := hw'
      subst hw''
      go_wp2
      go_ret
      exact ⟨rfl, ((Ext.refl _).alloc _).trans (below_regrown _ dq osq)⟩
end Go.Proofs.YtljibkfbldjgdaaGreatDoor
