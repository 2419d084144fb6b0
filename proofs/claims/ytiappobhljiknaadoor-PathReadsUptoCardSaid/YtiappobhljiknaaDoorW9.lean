/- Walks: the document's Text. -/
import Derived.Test.YtiappobhljiknaaDoorW8
namespace Go.Proofs.YtiappobhljiknaaDoor
open Go.RowKit
set_option linter.unusedVariables false

/-- What stands ahead of segment k. -/
def pre (l : List Seg) (k : Nat) : List UInt8 := if k = 0 then [] else pathT (l.take k) ++ [32]
theorem pre_succ (l : List Seg) (k : Nat) (hk : k < l.length) : pathT (l.take (k + 1)) = pre l k ++ segT l[k] := by
  unfold pre pathT
  rw [map_take_succ segT l k hk, join_snoc]
  by_cases h : k = 0
  · subst h; simp
  · rw [if_neg h, if_neg]
    intro he
    have := congrArg List.length he
    rw [List.length_map, List.length_take, List.length_nil] at this
    omega
def preA (l : List UInt32) (j : Nat) : List UInt8 := if j = 0 then [] else Lib.join ((l.take j).map asT) [32] ++ [32]
theorem preA_succ (l : List UInt32) (j : Nat) (hj : j < l.length) : Lib.join ((l.take (j + 1)).map asT) [32] = preA l j ++ asT l[j] := by
  unfold preA
  rw [map_take_succ asT l j hj, join_snoc]
  by_cases h : j = 0
  · subst h; simp
  · rw [if_neg h, if_neg]
    intro he
    have := congrArg List.length he
    rw [List.length_map, List.length_take, List.length_nil] at this
    omega
theorem pathT_take_le {l : List Seg} (h : chk l = true) (k : Nat) : (pathT (l.take k)).length ≤ 5358 * l.length := by
  have := join_le 5357 ((l.take k).map segT) (by
    intro x hx
    obtain ⟨s, hs, rfl⟩ := List.mem_map.1 hx
    obtain ⟨j, hj, rfl⟩ := List.getElem_of_mem (List.mem_of_mem_take hs)
    have h1 := (chk_at h j hj).2.2.2.1
    have h2 := segT_le l[j]
    omega)
  simp only [List.length_map, List.length_take] at this
  unfold pathT
  have h3 : 5358 * min k l.length ≤ 5358 * l.length := Nat.mul_le_mul_left _ (Nat.min_le_right _ _)
  omega
theorem open1 (V : World) : (Instr.slice 9 (.string ⟨#[32, 123, 60, 40, 91]⟩) (some (.int .i64 1)) (some (.int .i64 (1 + 1))) none).run Tryd.prog V = .ok (.string (opB 1)) V := by kernel_rfl
theorem open2 (V : World) : (Instr.slice 9 (.string ⟨#[32, 123, 60, 40, 91]⟩) (some (.int .i64 2)) (some (.int .i64 (2 + 1))) none).run Tryd.prog V = .ok (.string (opB 2)) V := by kernel_rfl
theorem open3 (V : World) : (Instr.slice 9 (.string ⟨#[32, 123, 60, 40, 91]⟩) (some (.int .i64 3)) (some (.int .i64 (3 + 1))) none).run Tryd.prog V = .ok (.string (opB 3)) V := by kernel_rfl
theorem open4 (V : World) : (Instr.slice 9 (.string ⟨#[32, 123, 60, 40, 91]⟩) (some (.int .i64 4)) (some (.int .i64 (4 + 1))) none).run Tryd.prog V = .ok (.string (opB 4)) V := by kernel_rfl
theorem open_at (k : Int) (h1 : 1 ≤ k) (h2 : k ≤ 4) (V : World) : (Instr.slice 9 (.string ⟨#[32, 123, 60, 40, 91]⟩) (some (.int .i64 k)) (some (.int .i64 (k + 1))) none).run Tryd.prog V = .ok (.string (opB k)) V := by
  have : k = 1 ∨ k = 2 ∨ k = 3 ∨ k = 4 := by omega
  rcases this with h | h | h | h
  · subst h; exact open1 V
  · subst h; exact open2 V
  · subst h; exact open3 V
  · subst h; exact open4 V
theorem shut1 (V : World) : (Instr.slice 9 (.string ⟨#[32, 125, 62, 41, 93]⟩) (some (.int .i64 1)) (some (.int .i64 (1 + 1))) none).run Tryd.prog V = .ok (.string (clB 1)) V := by kernel_rfl
theorem shut2 (V : World) : (Instr.slice 9 (.string ⟨#[32, 125, 62, 41, 93]⟩) (some (.int .i64 2)) (some (.int .i64 (2 + 1))) none).run Tryd.prog V = .ok (.string (clB 2)) V := by kernel_rfl
theorem shut3 (V : World) : (Instr.slice 9 (.string ⟨#[32, 125, 62, 41, 93]⟩) (some (.int .i64 3)) (some (.int .i64 (3 + 1))) none).run Tryd.prog V = .ok (.string (clB 3)) V := by kernel_rfl
theorem shut4 (V : World) : (Instr.slice 9 (.string ⟨#[32, 125, 62, 41, 93]⟩) (some (.int .i64 4)) (some (.int .i64 (4 + 1))) none).run Tryd.prog V = .ok (.string (clB 4)) V := by kernel_rfl
theorem shut_at (k : Int) (h1 : 1 ≤ k) (h2 : k ≤ 4) (V : World) : (Instr.slice 9 (.string ⟨#[32, 125, 62, 41, 93]⟩) (some (.int .i64 k)) (some (.int .i64 (k + 1))) none).run Tryd.prog V = .ok (.string (clB k)) V := by
  have : k = 1 ∨ k = 2 ∨ k = 3 ∨ k = 4 := by omega
  rcases this with h | h | h | h
  · subst h; exact shut1 V
  · subst h; exact shut2 V
  · subst h; exact shut3 V
  · subst h; exact shut4 V
theorem joinA_take (l : List UInt32) (j : Nat) (hj : j ≤ 255) : (Lib.join ((l.take j).map asT) [32]).length ≤ 5355 := by
  have := joinAs_le (l.take j)
  simp only [List.length_take] at this
  omega

set_option maxRecDepth 20000 in
set_option maxHeartbeats 4000000 in
theorem RText_ok (a : Option Addr) (c : Nat) (l : List Seg) (w : World) (hl : l.length ≤ 16777216) (hs : Path w a l) (htab : Tab w) (hck : chk l = true) (hne : 0 < l.length) :
    Calls Tryd.prog 16 #[.slice a l.length c] w fun e w' => e = .returned (.tuple #[.string ⟨(pathT l).toArray⟩, .int .i64 0]) ∧ Ext w w' := by
  replace hs := hide hs
  replace hck := hide hck
  replace htab := hide htab
  have hlen := chk_len hck.out
  have e0 : ((l.length : Int) == 0) = false := by rw [beq_eq_false_iff_ne]; omega
  go_enter Tryd.func16, Tryd.ntmps16
  go_wp2_with (go_at_call 23; refine (RCheck_ok _ _ l _ hl hs.out hck.out).mono ?_; rintro e w1 ⟨rfl, rfl⟩)
  go_loopw [6, 7] (fun s i wr => ∃ (k : Nat) (t : ByteArray), k ≤ l.length ∧ i = .int .i64 k ∧ s = .string t ∧ t.data.toList = pathT (l.take k) ∧ Ext w wr) (fun _ i _ => l.length - (intOf i).toNat)
  case atStart => exact ⟨0, ⟨#[]⟩, Nat.zero_le _, rfl, rfl, rfl, Ext.refl _⟩
  case round =>
    obtain ⟨k, t, hk, rfl, rfl, ht, hE⟩ := hrel
    replace hE := hide hE
    have hts : t.size ≤ 85728 := by rw [size_list, ht]; have := pathT_take_le hck.out k; omega
    replace ht := hide ht
    by_cases hlt : k < l.length
    · obtain ⟨b1, o1, a1, c1, rfl, _, h0, h1, hm1, hs1, hk1, hk2⟩ := ESeg.at hs.out k hlt
      obtain ⟨g1, g2, g3, g4, _⟩ := chk_at hck.out k hlt
      have h0' := hE.out.cell h0
      replace h0 := hide h0
      have h1' := hE.out.cell h1
      replace h1 := hide h1
      replace hs1 := hide hs1
      have hpre := hide (pre_succ l k hlt)
      have hop := open_at l[k].kind g1 g2
      have hz1 : (opB l[k].kind).size ≤ 1 := Nat.le_refl _
      have start : ∃ s6 : ByteArray, s6.data.toList = pre l k ∧ s6.size ≤ 85729 ∧ s6 = (if k = 0 then t else t ++ ⟨#[32]⟩) := by
        refine ⟨_, ?_, ?_, rfl⟩
        · unfold pre
          by_cases h : k = 0
          · rw [if_pos h, if_pos h, ht.out, h]; rfl
          · rw [if_neg h, if_neg h]; simp [ht.out]
        · by_cases h : k = 0
          · rw [if_pos h]; omega
          · rw [if_neg h, ByteArray.size_append]
            have : (⟨#[32]⟩ : ByteArray).size = 1 := rfl
            omega
      obtain ⟨s6, hs6, hz6, he6⟩ := start
      replace hs6 := hide hs6
      replace he6 := hide he6
      have hA0 : ¬ 9223372036854775807 < t.size + 1 := by omega
      have hA1 : ¬ 9223372036854775807 < s6.size + (opB l[k].kind).size := by omega
      by_cases hk0 : k = 0
      · have d0 : decide (0 < k) = false := by simp; omega
        have he7 : t = s6 := by rw [he6.out, if_pos hk0]
        replace hk0 := hide hk0
        subst he7
        go_wp2
        go_quiet (fail)
        go_wp2
        have hz7 : (t ++ opB l[k].kind).size ≤ 85730 := by rw [ByteArray.size_append]; omega
        have hu0 : (t ++ opB l[k].kind).data.toList = pre l k ++ opn l[k].kind :: Lib.join ((l[k].as.take 0).map asT) [32] := by rw [ByteArray.data_append, Array.toList_append, hs6.out]; rfl
        replace hu0 := hide hu0
        generalize hWq : wr.drewN nq = W1
        have hE1 : Ext w W1 := by rw [← hWq]; exact hE.out.drewN _
        replace hE1 := hide hE1
        clear hWq
        go_loopw [6, 8] (fun s i wq => ∃ (j : Nat) (u : ByteArray), j ≤ l[k].as.length ∧ i = .int .i64 j ∧ s = .string u ∧ u.data.toList = pre l k ++ opn l[k].kind :: Lib.join ((l[k].as.take j).map asT) [32] ∧ Ext w wq) (fun _ i _ => l[k].as.length - (intOf i).toNat)
        case atStart => exact ⟨0, _, Nat.zero_le _, rfl, rfl, hu0.out, hE1.out⟩
        case round =>
          obtain ⟨j, u, hj, rfl, rfl, hu, hEj⟩ := hrel
          have hus : u.size ≤ 91085 := by
            have h1 := congrArg List.length hu
            have h2 := joinA_take l[k].as j (by omega)
            have h3 := congrArg List.length hs6.out
            rw [← size_list] at h1 h3
            simp only [List.length_append, List.length_cons] at h1
            omega
          replace hEj := hide hEj
          replace hu := hide hu
          have p0 := hEj.out.cell h0.out
          have p1 := hEj.out.cell h1.out
          by_cases hltj : j < l[k].as.length
          · obtain ⟨b4, o4, rfl, _, q0⟩ := EU32.at (hs1.out.ext hEj.out) j hltj
            have hx := l[k].as[j].toNat_lt
            have hdz := decB_size l[k].as[j]
            have hsu := hide (preA_succ l[k].as j hltj)
            have start : ∃ s9 : ByteArray, s9.data.toList = pre l k ++ opn l[k].kind :: preA l[k].as j ∧ s9.size ≤ 91086 ∧ s9 = (if j = 0 then u else u ++ ⟨#[32]⟩) := by
              refine ⟨_, ?_, ?_, rfl⟩
              · unfold preA
                by_cases h : j = 0
                · rw [if_pos h, if_pos h, hu.out, h]; rfl
                · rw [if_neg h, if_neg h]; simp [hu.out]
              · by_cases h : j = 0
                · rw [if_pos h]; omega
                · rw [if_neg h, ByteArray.size_append]
                  have : (⟨#[32]⟩ : ByteArray).size = 1 := rfl
                  omega
            obtain ⟨s9, hs9, hz9, he9⟩ := start
            replace hs9 := hide hs9
            replace he9 := hide he9
            have hB0 : ¬ 9223372036854775807 < u.size + 1 := by omega
            have hB1 : ¬ 9223372036854775807 < s9.size + (dec l[k].as[j].toNat).size := by have : (dec l[k].as[j].toNat).size ≤ 20 := hdz; omega
            by_cases hj0 : j = 0
            · have dj : decide (0 < j) = false := by simp; omega
              have he8 : u = s9 := by rw [he9.out, if_pos hj0]
              replace hj0 := hide hj0
              subst he8
              go_wp2_with (go_at_call 46; refine (FormatUint_any l[k].as[j].toNat (by omega) _ (htab.out.ext hEj.out)).mono ?_; rintro e w4 ⟨rfl, he4⟩; replace he4 := hide he4)
              go_roundw
              case rel => exact ⟨j + 1, u ++ dec l[k].as[j].toNat, by omega, by go_num, rfl, by rw [hsu.out, ByteArray.data_append, Array.toList_append, hs9.out]; simp [dec, asT], hEj.out.trans he4.out⟩
              case measure => simp [intOf]; omega
            · have dj : decide (0 < j) = true := by simp; omega
              have he8 : u ++ ⟨#[32]⟩ = s9 := by rw [he9.out, if_neg hj0]
              replace hj0 := hide hj0
              have hB2 : ¬ 9223372036854775807 < u.size + 1 + (dec l[k].as[j].toNat).size := by have : (dec l[k].as[j].toNat).size ≤ 20 := hdz; omega
              subst he8
              go_wp2_with (go_at_call 46; refine (FormatUint_any l[k].as[j].toNat (by omega) _ (htab.out.ext hEj.out)).mono ?_; rintro e w4 ⟨rfl, he4⟩; replace he4 := hide he4)
              go_roundw
              case rel => exact ⟨j + 1, u ++ ⟨#[32]⟩ ++ dec l[k].as[j].toNat, by omega, by go_num, rfl, by rw [hsu.out, ByteArray.data_append, Array.toList_append, hs9.out]; simp [dec, asT], hEj.out.trans he4.out⟩
              case measure => simp [intOf]; omega
          · have hjl : j = l[k].as.length := by omega
            have hu1 := hu.out
            rw [hjl, List.take_length] at hu1
            have hsh := shut_at l[k].kind g1 g2
            have hz2 : (clB l[k].kind).size ≤ 1 := Nat.le_refl _
            have hC1 : ¬ 9223372036854775807 < u.size + (clB l[k].kind).size := by omega
            replace hu1 := hide hu1
            clear d0
            go_wp2
            go_quiet (fail)
            go_wp2
            go_roundw
            case rel => exact ⟨k + 1, u ++ clB l[k].kind, by omega, by go_num, rfl, by rw [hpre.out]; simp [hu1.out, clB, segT], hEj.out.drewN _⟩
            case measure => simp [intOf]; omega
      · have d0 : decide (0 < k) = true := by simp; omega
        have he7 : t ++ ⟨#[32]⟩ = s6 := by rw [he6.out, if_neg hk0]
        replace hk0 := hide hk0
        have hA2 : ¬ 9223372036854775807 < t.size + 1 + (opB l[k].kind).size := by omega
        subst he7
        go_wp2
        go_quiet (fail)
        go_wp2
        have hz7 : (t ++ ⟨#[32]⟩ ++ opB l[k].kind).size ≤ 85730 := by rw [ByteArray.size_append]; omega
        have hu0 : (t ++ ⟨#[32]⟩ ++ opB l[k].kind).data.toList = pre l k ++ opn l[k].kind :: Lib.join ((l[k].as.take 0).map asT) [32] := by rw [ByteArray.data_append, Array.toList_append, hs6.out]; rfl
        replace hu0 := hide hu0
        generalize hWq : wr.drewN nq = W1
        have hE1 : Ext w W1 := by rw [← hWq]; exact hE.out.drewN _
        replace hE1 := hide hE1
        clear hWq
        go_loopw [6, 8] (fun s i wq => ∃ (j : Nat) (u : ByteArray), j ≤ l[k].as.length ∧ i = .int .i64 j ∧ s = .string u ∧ u.data.toList = pre l k ++ opn l[k].kind :: Lib.join ((l[k].as.take j).map asT) [32] ∧ Ext w wq) (fun _ i _ => l[k].as.length - (intOf i).toNat)
        case atStart => exact ⟨0, _, Nat.zero_le _, rfl, rfl, hu0.out, hE1.out⟩
        case round =>
          obtain ⟨j, u, hj, rfl, rfl, hu, hEj⟩ := hrel
          have hus : u.size ≤ 91085 := by
            have h1 := congrArg List.length hu
            have h2 := joinA_take l[k].as j (by omega)
            have h3 := congrArg List.length hs6.out
            rw [← size_list] at h1 h3
            simp only [List.length_append, List.length_cons] at h1
            omega
          replace hEj := hide hEj
          replace hu := hide hu
          have p0 := hEj.out.cell h0.out
          have p1 := hEj.out.cell h1.out
          by_cases hltj : j < l[k].as.length
          · obtain ⟨b4, o4, rfl, _, q0⟩ := EU32.at (hs1.out.ext hEj.out) j hltj
            have hx := l[k].as[j].toNat_lt
            have hdz := decB_size l[k].as[j]
            have hsu := hide (preA_succ l[k].as j hltj)
            have start : ∃ s9 : ByteArray, s9.data.toList = pre l k ++ opn l[k].kind :: preA l[k].as j ∧ s9.size ≤ 91086 ∧ s9 = (if j = 0 then u else u ++ ⟨#[32]⟩) := by
              refine ⟨_, ?_, ?_, rfl⟩
              · unfold preA
                by_cases h : j = 0
                · rw [if_pos h, if_pos h, hu.out, h]; rfl
                · rw [if_neg h, if_neg h]; simp [hu.out]
              · by_cases h : j = 0
                · rw [if_pos h]; omega
                · rw [if_neg h, ByteArray.size_append]
                  have : (⟨#[32]⟩ : ByteArray).size = 1 := rfl
                  omega
            obtain ⟨s9, hs9, hz9, he9⟩ := start
            replace hs9 := hide hs9
            replace he9 := hide he9
            have hB0 : ¬ 9223372036854775807 < u.size + 1 := by omega
            have hB1 : ¬ 9223372036854775807 < s9.size + (dec l[k].as[j].toNat).size := by have : (dec l[k].as[j].toNat).size ≤ 20 := hdz; omega
            by_cases hj0 : j = 0
            · have dj : decide (0 < j) = false := by simp; omega
              have he8 : u = s9 := by rw [he9.out, if_pos hj0]
              replace hj0 := hide hj0
              subst he8
              go_wp2_with (go_at_call 46; refine (FormatUint_any l[k].as[j].toNat (by omega) _ (htab.out.ext hEj.out)).mono ?_; rintro e w4 ⟨rfl, he4⟩; replace he4 := hide he4)
              go_roundw
              case rel => exact ⟨j + 1, u ++ dec l[k].as[j].toNat, by omega, by go_num, rfl, by rw [hsu.out, ByteArray.data_append, Array.toList_append, hs9.out]; simp [dec, asT], hEj.out.trans he4.out⟩
              case measure => simp [intOf]; omega
            · have dj : decide (0 < j) = true := by simp; omega
              have he8 : u ++ ⟨#[32]⟩ = s9 := by rw [he9.out, if_neg hj0]
              replace hj0 := hide hj0
              have hB2 : ¬ 9223372036854775807 < u.size + 1 + (dec l[k].as[j].toNat).size := by have : (dec l[k].as[j].toNat).size ≤ 20 := hdz; omega
              subst he8
              go_wp2_with (go_at_call 46; refine (FormatUint_any l[k].as[j].toNat (by omega) _ (htab.out.ext hEj.out)).mono ?_; rintro e w4 ⟨rfl, he4⟩; replace he4 := hide he4)
              go_roundw
              case rel => exact ⟨j + 1, u ++ ⟨#[32]⟩ ++ dec l[k].as[j].toNat, by omega, by go_num, rfl, by rw [hsu.out, ByteArray.data_append, Array.toList_append, hs9.out]; simp [dec, asT], hEj.out.trans he4.out⟩
              case measure => simp [intOf]; omega
          · have hjl : j = l[k].as.length := by omega
            have hu1 := hu.out
            rw [hjl, List.take_length] at hu1
            have hsh := shut_at l[k].kind g1 g2
            have hz2 : (clB l[k].kind).size ≤ 1 := Nat.le_refl _
            have hC1 : ¬ 9223372036854775807 < u.size + (clB l[k].kind).size := by omega
            replace hu1 := hide hu1
            clear d0
            go_wp2
            go_quiet (fail)
            go_wp2
            go_roundw
            case rel => exact ⟨k + 1, u ++ clB l[k].kind, by omega, by go_num, rfl, by rw [hpre.out]; simp [hu1.out, clB, segT], hEj.out.drewN _⟩
            case measure => simp [intOf]; omega
    · have hkl : k = l.length := by omega
      have ht1 := ht.out
      rw [hkl, List.take_length] at ht1
      have hts : t = ⟨(pathT l).toArray⟩ := by rw [← ht1]
      replace hts := hide hts
      replace ht1 := hide ht1
      go_wp2
      go_ret2
      exact ⟨by rw [← hts.out]; rfl, hE.out⟩

theorem RText_any (a : Option Addr) (c : Nat) (l : List Seg) (w : World) (hl : l.length ≤ 16777216) (hs : Path w a l) (htab : Tab w) :
    Calls Tryd.prog 16 #[.slice a l.length c] w fun e w' => e = .returned (.tuple #[.string (textS l), .int .i64 (errOf (chk l))]) ∧ Ext w w' := by
  cases h : chk l
  · rw [show textS l = ⟨#[]⟩ by simp [textS, h]]
    replace hs := hide hs
    replace h := hide h
    go_enter Tryd.func16, Tryd.ntmps16
    go_wp2_with (go_at_call 23; refine (RCheck_no _ _ l _ hl hs.out h.out).mono ?_; rintro e w1 ⟨rfl, rfl⟩)
    go_ret2
    exact ⟨rfl, Ext.refl _⟩
  · by_cases hne : 0 < l.length
    · rw [show textS l = ⟨(pathT l).toArray⟩ by
        have : l ≠ [] := by intro h; subst h; simp at hne
        simp [textS, h, this]]
      exact RText_ok a c l w hl hs htab h hne
    · have hl0 : l = [] := List.eq_nil_of_length_eq_zero (by omega)
      subst hl0
      replace hs := hide hs
      replace h := hide h
      go_enter Tryd.func16, Tryd.ntmps16
      go_wp2_with (go_at_call 23; refine (RCheck_ok _ _ [] _ hl hs.out h.out).mono ?_; rintro e w1 ⟨rfl, rfl⟩)
      go_ret2
      exact ⟨rfl, Ext.refl _⟩
end Go.Proofs.YtiappobhljiknaaDoor
