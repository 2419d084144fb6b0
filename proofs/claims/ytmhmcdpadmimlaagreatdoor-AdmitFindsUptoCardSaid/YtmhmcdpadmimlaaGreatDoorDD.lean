/- Walks: a replacer of bytes at work: '.' and ':' become '-'. -/
import Derived.Test.YtmhmcdpadmimlaaGreatDoorDC
import Derived.Test.YtmhmcdpadmimlaaGreatDoorDA
import Derived.Lib.SliceRun
namespace Go.Proofs.YtmhmcdpadmimlaaGreatDoor
open Go.RowKit
set_option linter.unusedVariables false

theorem dash_nat (c : UInt8) : (dashB c).toNat = dashN c.toNat := by
  unfold dashB dashN
  by_cases h : c = 46 ∨ c = 58
  · rw [if_pos h, if_pos (by rcases h with rfl | rfl <;> decide)]
    rfl
  · rw [if_neg h, if_neg (fun h2 => h (h2.elim (fun e => .inl (UInt8.toNat_inj.1 e)) (fun e => .inr (UInt8.toNat_inj.1 e))))]
def mapD (s : List UInt8) (k : Nat) : List UInt8 := (s.take k).map dashB ++ s.drop k
theorem mapD_len (s : List UInt8) (k : Nat) : (mapD s k).length = s.length := by simp [mapD]; omega
theorem mapD_all (s : List UInt8) : mapD s s.length = s.map dashB := by simp [mapD]
theorem mapD_step (s : List UInt8) (k : Nat) (hk : k < s.length) : (mapD s k).set k (dashB s[k]) = mapD s (k + 1) := by
  have hl : ((s.take k).map dashB).length = k := by simp; omega
  unfold mapD
  rw [List.drop_eq_getElem_cons hk, List.set_append_right _ _ (by omega), hl, Nat.sub_self, List.take_succ_eq_append_getElem hk, List.map_append, List.append_assoc]
  rfl
theorem mapD_skip (s : List UInt8) (k : Nat) (hk : k < s.length) (h : dashB s[k] = s[k]) : mapD s (k + 1) = mapD s k := by
  unfold mapD
  rw [List.drop_eq_getElem_cons hk, List.take_succ_eq_append_getElem hk, List.map_append, List.append_assoc]
  simp [h]
theorem mapD_same (s : List UInt8) (k : Nat) (h : ∀ c ∈ s.take k, dashB c = c) : mapD s k = s := by
  unfold mapD
  have : (s.take k).map dashB = s.take k := by
    conv => rhs; rw [← List.map_id (s.take k)]
    exact List.map_congr_left h
  rw [this, List.take_append_drop]
theorem OwnB.low {e : TypeId} {w : World} {B B' : Nat} {v : Value} {l : List UInt8} (h : OwnB e w B v l) (hB : B' ≤ B) : OwnB e w B' v l := by
  rcases h with h | ⟨g, cap, cur, fz, rfl, hb, r⟩
  · exact .inl h
  · exact .inr ⟨g, cap, cur, fz, rfl, Nat.le_trans hB hb, r⟩
set_option maxRecDepth 20000 in
set_option maxHeartbeats 1000000 in
theorem bReplace_any (h : Nat) (s : List UInt8) (hs : s.length ≤ 1048576) (w : World) (hT : Tbl w h dashN) :
    Calls Tryz.prog 164 #[.pointer (some ⟨h, 0, none⟩), .string ⟨s.toArray⟩] w fun e w' => e = .returned (.string ⟨(s.map dashB).toArray⟩) ∧ Ext w w' := by
  have hz : (ByteArray.mk s.toArray).size = s.length := by simp [ByteArray.size]
  have kc := fun (w : World) => Lib.run_convert_string_bytes (P := Tryz.prog) w 9 40 5 ⟨s.toArray⟩ Tryz.underlying9 Tryz.underlying40 Tryz.underlying5
  have qB := fun (w : World) (a : Option Addr) (n c : Nat) => Lib.run_eql_slice_nil (P := Tryz.prog) w 40 5 a n c 0 0 Tryz.underlying40
  replace hT := hide hT
  go_enter Tryz.func164, Tryz.ntmps164
  go_wp2
  go_loopw [5, 6, 7] (fun v i _ wr => ∃ k : Nat, k ≤ s.length ∧ i = .int .i64 k ∧ ((v = .slice none 0 0 ∧ ∀ c ∈ s.take k, dashB c = c) ∨ ∃ g c, v = .slice (some ⟨g, 0, none⟩) s.length c ∧ w.heap.size ≤ g ∧ OwnB 5 wr w.heap.size (.slice (some ⟨g, 0, none⟩) s.length c) (mapD s k)) ∧ Ext w wr) (fun _ i _ _ => s.length - (intOf i).toNat)
  case atStart => exact ⟨0, Nat.zero_le _, rfl, .inl ⟨rfl, by simp⟩, Ext.refl _⟩
  case round =>
    obtain ⟨k, hk, rfl, hv, hE⟩ := hrel
    by_cases hlt : k < s.length
    · obtain ⟨x0, xf⟩ := (hT.out.ext hE) s[k].toNat s[k].toNat_lt
      rw [← dash_nat] at x0
      have e1 : (ByteArray.mk s.toArray)[k]'(by omega) = s[k] := rfl
      have hst := mapD_step s k hlt
      have hsk := mapD_skip s k hlt
      have hsa := mapD_same s k
      have htk := List.take_succ_eq_append_getElem hlt
      have c0 : (0 : Int) ≤ (s[k].toNat : Int) := by omega
      have c1 : (s[k].toNat : Int) < 256 := by have := s[k].toNat_lt; omega
      by_cases hd : dashB s[k] = s[k]
      · have hne : (((dashB s[k]).toNat : Int) != (s[k].toNat : Int)) = false := by rw [hd]; simp
        have hnx : (u5 = .slice none 0 0 ∧ ∀ c ∈ s.take (k + 1), dashB c = c) ∨ ∃ g c, u5 = .slice (some ⟨g, 0, none⟩) s.length c ∧ w.heap.size ≤ g ∧ OwnB 5 wr w.heap.size (.slice (some ⟨g, 0, none⟩) s.length c) (mapD s (k + 1)) := by
          rcases hv with ⟨h1, h2⟩ | h1
          · refine .inl ⟨h1, fun c hc => ?_⟩
            rw [htk] at hc
            rcases List.mem_append.1 hc with hc | hc
            · exact h2 c hc
            · rw [List.mem_singleton.1 hc]; exact hd
          · rw [hsk hd]; exact .inr h1
        clear hst hsk hsa htk hv
        generalize (dashB s[k]).toNat = dn at *
        replace hd := hide hd
        generalize s[k] = ch at *
        replace hnx := hide hnx
        replace hE := hide hE
        go_wp2_with fail
        go_roundw
        case rel => exact ⟨k + 1, by omega, by go_num, hnx.out, hE.out⟩
        case measure => simp [intOf]; omega
      · have hne : (((dashB s[k]).toNat : Int) != (s[k].toNat : Int)) = true := by
          rw [bne_iff_ne]
          intro h'
          exact hd (UInt8.toNat_inj.1 (by omega))
        rcases hv with ⟨rfl, h2⟩ | ⟨g, c, rfl, hgw, hown⟩
        · have hcv := OwnB.conv (w := wr) (e := 5) ⟨s.toArray⟩ (by unfold maxLen; omega)
          have hEc := ext_bytesWorld wr 5 ⟨s.toArray⟩
          have hTc := ((hT.out.ext hE).ext hEc) s[k].toNat s[k].toNat_lt
          rw [← dash_nat] at hTc
          obtain ⟨x1, _⟩ := hTc
          rw [hz] at hcv
          have hll : s.toArray.toList.length = s.length := by simp
          have hcv2 := hcv.cell rfl k (by simpa using hlt)
          have hset := hcv.set k (dashB s[k])
          have hset2 : OwnB 5 ((Lib.bytesWorld wr 5 ⟨s.toArray⟩).setCell ⟨wr.heap.size, k, none⟩ (.int .u8 ((dashB s[k]).toNat : Int))) wr.heap.size (.slice (some ⟨wr.heap.size, 0, none⟩) s.length (grownCap wr s.length 0 5)) (mapD s (k + 1)) := by
            rw [← hst, hsa h2]
            simpa using hset
          have hgz := hE.size
          have hEs := (hE.trans hEc).setCell (p := ⟨wr.heap.size, k, none⟩) hgz (.int .u8 ((dashB s[k]).toNat : Int))
          obtain ⟨y0, yf⟩ := hcv2
          clear hst hsk hsa htk hcv hset hEc
          generalize hdn : (dashB s[k]).toNat = dn at *
          clear hdn
          replace hd := hide hd
          generalize s[k] = ch at *
          replace h2 := hide h2
          replace hset2 := hide hset2
          replace hE := hide hE
          replace hEs := hide hEs
          go_wp2_with fail
          go_roundw
          case rel => exact ⟨k + 1, by omega, by go_num, .inr ⟨_, _, rfl, hgz, hset2.out.low hgz⟩, hEs.out⟩
          case measure => simp [intOf]; omega
        · obtain ⟨y0, yf⟩ := hown.cell rfl k (by rw [mapD_len]; exact hlt)
          have hset := hown.set k (dashB s[k])
          rw [hst] at hset
          have hEs := hE.setCell (p := ⟨g, k, none⟩) hgw (.int .u8 ((dashB s[k]).toNat : Int))
          clear hst hsk hsa htk hown
          generalize hdn : (dashB s[k]).toNat = dn at *
          clear hdn
          replace hd := hide hd
          generalize s[k] = ch at *
          replace hset := hide hset
          replace hE := hide hE
          replace hEs := hide hEs
          replace hgw := hide hgw
          go_wp2_with fail
          go_roundw
          case rel => exact ⟨k + 1, by omega, by go_num, .inr ⟨_, _, rfl, hgw.out, hset.out⟩, hEs.out⟩
          case measure => simp [intOf]; omega
    · obtain rfl : k = s.length := by omega
      rcases hv with ⟨rfl, h2⟩ | ⟨g, c, rfl, hgw, hown⟩
      · have hsm : s.map dashB = s := by
          rw [← mapD_all]
          exact mapD_same s _ h2
        replace hsm := hide hsm
        replace h2 := hide h2
        replace hE := hide hE
        go_wp2
        go_ret
        exact ⟨by rw [hsm.out]; rfl, hE.out⟩
      · rw [mapD_all] at hown
        have hst := run_stringB (P := Tryz.prog) (src := 40) (dst := 9) Tryz.underlying40 Tryz.underlying5 Tryz.underlying9 hown
        replace hE := hide hE
        replace hown := hide hown
        replace hgw := hide hgw
        go_wp2
        go_ret
        exact ⟨rfl, hE.out⟩
end Go.Proofs.YtmhmcdpadmimlaaGreatDoor
