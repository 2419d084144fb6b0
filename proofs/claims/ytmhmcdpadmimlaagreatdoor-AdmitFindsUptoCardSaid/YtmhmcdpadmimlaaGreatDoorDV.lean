/- The walk of the document's Dynamic, chapter 21. -/
import Derived.Test.YtmhmcdpadmimlaaGreatDoorDT
import Derived.Test.YtmhmcdpadmimlaaGreatDoorDJ
import Derived.Test.YtmhmcdpadmimlaaGreatDoorQ8
namespace Go.Proofs.YtmhmcdpadmimlaaGreatDoor
open Go.RowKit
set_option linter.unusedVariables false

def RDynP (x : Nbr) (f : Option Addr) (c : Nat) (a : List UInt8) (w : World) (e : Ending) (w' : World) : Prop :=
  Ext w w' ∧ ((ofS x a = false ∧ e = .returned (.tuple #[.agg zeroA, .int .i64 2])) ∨ (ofS x a = true ∧ 16 < (dynName x a).length ∧ e = .returned (.tuple #[.agg zeroA, .int .i64 3])) ∨
    (ofS x a = true ∧ (dynName x a).length ≤ 16 ∧ e = .returned (.tuple #[.agg (nbrCs (dynN x a) f c).toArray, .int .i64 0])))
theorem dash_45 {c : UInt8} (h : c.toNat = 46 ∨ c.toNat = 58) : dashB c = 45 := by
  unfold dashB
  rw [if_pos (h.elim (fun e => .inl (UInt8.toNat_inj.1 e)) (fun e => .inr (UInt8.toNat_inj.1 e)))]
theorem dash_id {c : UInt8} (h1 : c.toNat ≠ 46) (h2 : c.toNat ≠ 58) : dashB c = c := by
  unfold dashB
  rw [if_neg (fun h => h.elim (fun e => h1 (by rw [e]; rfl)) (fun e => h2 (by rw [e]; rfl)))]
/-- A row of bytes behind a name, the first of which have been changed. -/
def stg (nm s : List UInt8) (K : Nat) : List UInt8 := nm ++ mapD s (K - nm.length)
theorem stg_len (nm s : List UInt8) (K : Nat) : (stg nm s K).length = nm.length + s.length := by unfold stg; rw [List.length_append, mapD_len]
theorem stg_at (nm s : List UInt8) (K : Nat) (h1 : nm.length ≤ K) (h2 : K < nm.length + s.length) : (stg nm s K)[K]'(by rw [stg_len]; exact h2) = s[K - nm.length]'(by omega) := by
  unfold stg
  rw [List.getElem_append_right h1]
  unfold mapD
  rw [List.getElem_append_right (by simp; omega)]
  simp only [List.length_map, List.length_take, List.getElem_drop]
  congr 1
  omega
theorem stg_set (nm s : List UInt8) (K : Nat) (h1 : nm.length ≤ K) (h2 : K < nm.length + s.length) : (stg nm s K).set K (dashB (s[K - nm.length]'(by omega))) = stg nm s (K + 1) := by
  unfold stg
  rw [List.set_append_right _ _ h1, mapD_step s (K - nm.length) (by omega), show K + 1 - nm.length = K - nm.length + 1 by omega]
theorem stg_skip (nm s : List UInt8) (K : Nat) (h1 : nm.length ≤ K) (h2 : K < nm.length + s.length) (h : dashB (s[K - nm.length]'(by omega)) = s[K - nm.length]'(by omega)) : stg nm s (K + 1) = stg nm s K := by
  unfold stg
  rw [show K + 1 - nm.length = K - nm.length + 1 by omega, mapD_skip s (K - nm.length) (by omega) h]
theorem stg_zero (nm s : List UInt8) : stg nm s nm.length = nm ++ s := by
  unfold stg mapD
  rw [Nat.sub_self]
  rfl
theorem stg_end (x : Nbr) (a : List UInt8) : stg x.name (45 :: (addrT a).1) (x.name.length + (45 :: (addrT a).1).length) = dynName x a := by
  unfold stg dynName
  rw [Nat.add_sub_cancel_left, mapD_all]
  rfl
set_option maxRecDepth 20000 in
set_option maxHeartbeats 4000000 in
theorem RDynamic_any21 (x : Nbr) (f : Option Addr) (fc : Nat) (a : List UInt8) (ha : a.length ≤ 1048576) (w : World) (hin : NbrIn w (· < w.heap.size) x f) :
    Calls Tryz.prog 11 #[.agg (nbrCs x f fc).toArray, .string ⟨a.toArray⟩] w (RDynP x f fc a w) := by
  have q1 := fun W => ROf_any x f fc a W hin.range.addr ha
  have q2 := fun W => RAddrText_any a ha W
  have kc := fun (s : ByteArray) (w : World) => Lib.run_convert_string_bytes (P := Tryz.prog) w 9 40 5 s Tryz.underlying9 Tryz.underlying40 Tryz.underlying5
  have hp1 : ∀ w', ofS x a = false → Ext w w' → RDynP x f fc a w (.returned (.tuple #[.agg zeroA, .int .i64 2])) w' := fun w' h hE => ⟨hE, .inl ⟨h, rfl⟩⟩
  have hp2 : ∀ w', ofS x a = true → 16 < (dynName x a).length → Ext w w' → RDynP x f fc a w (.returned (.tuple #[.agg zeroA, .int .i64 3])) w' := fun w' h h2 hE => ⟨hE, .inr (.inl ⟨h, h2, rfl⟩)⟩
  have hp3 : ∀ w', ofS x a = true → (dynName x a).length ≤ 16 → Ext w w' → RDynP x f fc a w (.returned (.tuple #[.agg (nbrCs (dynN x a) f fc).toArray, .int .i64 0])) w' := fun w' h h2 hE => ⟨hE, .inr (.inr ⟨h, h2, rfl⟩)⟩
  have hCN : ((((((nbrCs x f fc).toArray.setIfInBounds 0 (.string ⟨(dynName x a).toArray⟩)).setIfInBounds 1 (.string ⟨a.toArray⟩)).setIfInBounds 2 (.int .i64 0)).setIfInBounds 3 (.int .u64 0)).setIfInBounds 4 (.string ⟨#[]⟩)).setIfInBounds 5 (.int .i64 0) = (nbrCs (dynN x a) f fc).toArray := rfl
  have hse := stg_end x a
  have hC0 : (nbrCs x f fc)[0]? = some (.string ⟨x.name.toArray⟩) := rfl
  have hC1 : (nbrCs x f fc)[1]? = some (.string ⟨x.addr.toArray⟩) := rfl
  have hC2 : (nbrCs x f fc)[2]? = some (.int .i64 x.range.fam) := rfl
  have hC3 : (nbrCs x f fc)[3]? = some (.int .u64 (x.range.rd : Int)) := rfl
  have hC4 : (nbrCs x f fc)[4]? = some (.string ⟨x.range.addr.toArray⟩) := rfl
  have hC5 : (nbrCs x f fc)[5]? = some (.int .i64 x.range.len) := rfl
  have hCl : (nbrCs x f fc).length = 23 := rfl
  have hCo := nbr_one x f fc
  have hNo := nbr_one (dynN x a) f fc
  have hNl : (nbrCs (dynN x a) f fc).length = 23 := rfl
  obtain ⟨ZA, hZA⟩ : ∃ ZA, ZA = zeroA := ⟨_, rfl⟩
  have hbz := built_zero
  have hza : ZA.size = 23 := by rw [hZA]; rfl
  have hzo : ZA.all (·.oneCell') = true := by rw [hZA]; kernel_rfl
  rw [← hZA] at hp1 hp2 hbz
  have htl := addrT_len (a := a)
  have hnl := hin.name
  generalize nbrCs x f fc = CS at *
  generalize nbrCs (dynN x a) f fc = CN at *
  have hi23 : (Tryz.prog.info? 31).map (·.size) = some CS.length := by rw [hCl]; kernel_rfl
  have hiza : (Tryz.prog.info? 31).map (·.size) = some ZA.size := by rw [hza]; kernel_rfl
  have P := (Blk.new w 31 CS.toArray).alloc (Obj.cells #[.string ⟨#[]⟩, .string ⟨#[]⟩, .int .i64 0, .int .u64 0, .string ⟨#[]⟩, .int .i64 0, .int .u32 0, .int .i64 0, .int .i64 0, .bool false, .bool false, .bool false, .slice none 0 0, .int .i64 0, .bool false, .int .i64 0, .bool false, .int .i64 0, .int .i64 0, .string ⟨#[]⟩, .string ⟨#[]⟩, .string ⟨#[]⟩, .bool false] 31)
  have R := Blk.new (w.alloc (Obj.cells CS.toArray 31)) 31 #[.string ⟨#[]⟩, .string ⟨#[]⟩, .int .i64 0, .int .u64 0, .string ⟨#[]⟩, .int .i64 0, .int .u32 0, .int .i64 0, .int .i64 0, .bool false, .bool false, .bool false, .slice none 0 0, .int .i64 0, .bool false, .int .i64 0, .bool false, .int .i64 0, .int .i64 0, .string ⟨#[]⟩, .string ⟨#[]⟩, .string ⟨#[]⟩, .bool false]
  have E := ((Ext.refl w).alloc (Obj.cells CS.toArray 31)).alloc (Obj.cells #[.string ⟨#[]⟩, .string ⟨#[]⟩, .int .i64 0, .int .u64 0, .string ⟨#[]⟩, .int .i64 0, .int .u32 0, .int .i64 0, .int .i64 0, .bool false, .bool false, .bool false, .slice none 0 0, .int .i64 0, .bool false, .int .i64 0, .bool false, .int .i64 0, .int .i64 0, .string ⟨#[]⟩, .string ⟨#[]⟩, .string ⟨#[]⟩, .bool false] 31)
  rw [show (w.alloc (Obj.cells CS.toArray 31)).heap.size = w.heap.size + 1 by simp] at R
  generalize hdn : dynName x a = dn at *
  generalize (addrT a).1 = tx at *
  generalize (addrT a).2 = te at *
  cases ho : ofS x a with
  | false =>
    rw [ho] at q1
    replace hp1 := fun w' => hp1 w' ho
    clear ho q2 hp2 hp3 hCN hdn hNo hNl hse hC0 hC1 hC2 hC3 hC4 hC5 kc htl hnl
    generalize RDynP x f fc a w = Post at *
    replace q1 := hide q1
    replace hp1 := hide hp1
    replace hCo := hide hCo
    replace hCl := hide hCl
    replace hi23 := hide hi23
    replace P := hide P
    replace R := hide R
    replace E := hide E
    replace hin := hide hin
    replace hza := hide hza
    replace hiza := hide hiza
    replace hbz := hide hbz
    replace hzo := hide hzo
    replace hZA := hide hZA
    go_enter Tryz.func11, Tryz.ntmps11
    generalize hW0 : (w.alloc (Obj.cells CS.toArray 31)).alloc (Obj.cells #[.string ⟨#[]⟩, .string ⟨#[]⟩, .int .i64 0, .int .u64 0, .string ⟨#[]⟩, .int .i64 0, .int .u32 0, .int .i64 0, .int .i64 0, .bool false, .bool false, .bool false, .slice none 0 0, .int .i64 0, .bool false, .int .i64 0, .bool false, .int .i64 0, .int .i64 0, .string ⟨#[]⟩, .string ⟨#[]⟩, .string ⟨#[]⟩, .bool false] 31) = W0 at P R E
    generalize hg0 : w.heap.size = g0 at P R
    have hgw : w.heap.size ≤ g0 + 1 := by omega
    have hra := hide (blk_range P.out)
    go_wp2_with (with_reducible refine wpList_load_mid rfl 31 (.tmp 2) rfl g0 0 rfl CS _ hra.out Tryz.underlying31 rfl hi23.out ?_)
    clear hW0 hra
    refine (q1.out _).mono ?_
    rintro e W1 ⟨rfl, hE1⟩
    have R1 := R.out.ext hE1
    have E1 := E.out.trans hE1
    have hth := blk_there R1 (n := ZA.size) (by rw [hza.out]; exact Nat.le_refl 23)
    have E2 := Ext.setCells21 hgw ZA.toList 0 _ E1
    have hr := World.rangeAt_setCells_same W1 (g0 + 1) 0 ZA.toList (by rw [Array.length_toList]; exact hth)
    have hlv := loadVar21 hr (by rw [Array.length_toList]; exact hza.out)
    rw [Array.toArray_toList] at hlv
    clear hr R1 E1 hE1
    replace hth := hide hth
    replace E2 := hide E2
    go_wp2_with (first
      | (with_reducible refine wpList_buildC rfl 31 #[] rfl [] ZA (by simp) hbz.out ?_)
      | (with_reducible refine wpList_store_mid rfl 31 (.tmp 4) (.tmp 14) rfl (g0 + 1) 0 ZA rfl rfl hth.out hiza.out hzo.out ?_))
    generalize W1.setCells (g0 + 1) 0 ZA.toList = W2 at E2 hlv ⊢
    exact bodyPost_ret (v := .tuple #[.agg ZA, .int .i64 2]) (results_pair21 Tryz.results11 rfl hlv rfl) rfl (hp1.out _ E2.out)
  | true =>
    rw [ho] at q1
    replace hp2 := fun w' => hp2 w' ho
    replace hp3 := fun w' => hp3 w' ho
    clear ho hp1
    generalize RDynP x f fc a w = Post at *
    obtain ⟨s2, hs2⟩ : ∃ s2, s2 = (45 : UInt8) :: tx := ⟨_, rfl⟩
    rw [← hs2] at hse
    have hm : s2.length = tx.length + 1 := by rw [hs2]; rfl
    generalize x.name = nm at *
    obtain ⟨sn, hsn⟩ : ∃ sn : ByteArray, sn = ⟨nm.toArray⟩ := ⟨_, rfl⟩
    obtain ⟨st, hst⟩ : ∃ st : ByteArray, st = ⟨tx.toArray⟩ := ⟨_, rfl⟩
    have zn : sn.size = nm.length := by rw [hsn, ba_size]
    have zt : st.size = tx.length := by rw [hst, ba_size]
    have hd3 : (sn ++ ⟨#[45]⟩ ++ st).data.toList = nm ++ s2 := by rw [hsn, hst, hs2]; simp [ByteArray.data_append]
    have hz3 : (sn ++ ⟨#[45]⟩ ++ st).size = nm.length + s2.length := by rw [ba_sz_app, ba_sz_app, zn, zt, hm]; show nm.length + 1 + tx.length = _; omega
    rw [← hsn] at hC0
    rw [← hst] at q2
    have z0 : ¬ 9223372036854775807 < sn.size + (ByteArray.mk #[45]).size := by show ¬ _ < sn.size + 1; omega
    have y0 : ¬ 9223372036854775807 < sn.size + 1 := by omega
    have z1 : ¬ 9223372036854775807 < (sn ++ ⟨#[45]⟩).size + st.size := by rw [ba_sz_app]; show ¬ _ < sn.size + 1 + st.size; omega
    have y1 : ¬ 9223372036854775807 < sn.size + 1 + st.size := by omega
    have hNn : nm.length + s2.length ≤ 1048700 := by omega
    clear hs2 hsn hst htl hnl hm
    replace q1 := hide q1
    replace q2 := hide q2
    replace hp2 := hide hp2
    replace hp3 := hide hp3
    replace hCo := hide hCo
    replace hCl := hide hCl
    replace hi23 := hide hi23
    replace P := hide P
    replace R := hide R
    replace E := hide E
    replace hin := hide hin
    replace hza := hide hza
    replace hiza := hide hiza
    replace hzo := hide hzo
    replace hZA := hide hZA
    replace hCN := hide hCN
    replace hNo := hide hNo
    replace hC0 := hide hC0
    replace hC1 := hide hC1
    replace hC2 := hide hC2
    replace hC3 := hide hC3
    replace hC4 := hide hC4
    replace hC5 := hide hC5
    replace hdn := hide hdn
    replace hbz := hide hbz
    replace hNl := hide hNl
    replace hse := hide hse
    replace hd3 := hide hd3
    replace hz3 := hide hz3
    replace zn := hide zn
    replace zt := hide zt
    replace hNn := hide hNn
    go_enter Tryz.func11, Tryz.ntmps11
    generalize hW0 : (w.alloc (Obj.cells CS.toArray 31)).alloc (Obj.cells #[.string ⟨#[]⟩, .string ⟨#[]⟩, .int .i64 0, .int .u64 0, .string ⟨#[]⟩, .int .i64 0, .int .u32 0, .int .i64 0, .int .i64 0, .bool false, .bool false, .bool false, .slice none 0 0, .int .i64 0, .bool false, .int .i64 0, .bool false, .int .i64 0, .int .i64 0, .string ⟨#[]⟩, .string ⟨#[]⟩, .string ⟨#[]⟩, .bool false] 31) = W0 at P R E
    generalize hg0 : w.heap.size = g0 at P R
    have hgw0 : w.heap.size ≤ g0 := by omega
    have hgw : w.heap.size ≤ g0 + 1 := by omega
    have hra := hide (blk_range P.out)
    go_wp2_with (with_reducible refine wpList_load_mid rfl 31 (.tmp 2) rfl g0 0 rfl CS _ hra.out Tryz.underlying31 rfl hi23.out ?_)
    clear hW0 hra hg0
    refine (q1.out _).mono ?_
    rintro e W1 ⟨rfl, hE1⟩
    replace P := hide (P.out.ext hE1)
    replace R := hide (R.out.ext hE1)
    replace E := hide (E.out.trans hE1)
    clear q1 hE1
    go_wp2_with fail
    refine (q2.out _).mono ?_
    rintro e W3 ⟨rfl, hE1⟩
    have P3 := P.out.ext hE1
    have R3 := R.out.ext hE1
    have E3 := E.out.trans hE1
    clear q2 hE1 P R E
    have p0 : W3.cell? ⟨g0, 0, none⟩ = some (.string sn) := (P3.cell 0).trans (by rw [List.getElem?_toArray]; exact hC0.out)
    replace P3 := hide P3
    replace R3 := hide R3
    replace E3 := hide E3
    go_upto_region 5 with fail
    have hcv := OwnB.conv (w := W3) (e := 5) (sn ++ ⟨#[45]⟩ ++ st) (by unfold maxLen; rw [hz3.out]; have := hNn.out; omega)
    have hEc := ext_bytesWorld W3 5 (sn ++ ⟨#[45]⟩ ++ st)
    have hsz : (sn ++ ⟨#[45]⟩ ++ st).size = sn.size + 1 + st.size := by rw [ba_sz_app, ba_sz_app]; rfl
    have hN : sn.size + 1 + st.size = nm.length + s2.length := by rw [← hsz, hz3.out]
    rw [hd3.out, hsz] at hcv
    generalize grownCap W3 (sn.size + 1 + st.size) 0 5 = cb at hcv ⊢
    generalize Lib.bytesWorld W3 5 (sn ++ ⟨#[45]⟩ ++ st) = W4 at hcv hEc ⊢
    have hgb : W3.heap.size ≤ W3.heap.size := Nat.le_refl _
    generalize hgbe : W3.heap.size = gb at hcv ⊢
    rw [hgbe] at hgb
    replace hgb : W3.heap.size ≤ gb := Nat.le_of_eq hgbe
    rw [hN] at hcv ⊢
    have hlen0 := hNn.out
    obtain ⟨N, hNN⟩ : ∃ N, N = nm.length + s2.length := ⟨_, rfl⟩
    rw [← hNN] at hcv hlen0 ⊢
    have hzn := zn.out
    have p0 : W4.cell? ⟨g0, 0, none⟩ = some (.string sn) := hEc.cell p0
    clear hsz hN hgbe z0 z1 y0 y1 hd3 hz3 zt kc hNn zn
    replace hcv := hide hcv
    replace hEc := hide hEc
    replace hgb := hide hgb
    replace hNN := hide hNN
    go_wp2_with fail
    clear p0 hzn
    go_loopw [9] (fun i wr => ∃ K : Nat, nm.length ≤ K ∧ K ≤ N ∧ i = .int .i64 (K : Int) ∧ OwnB 5 wr gb (.slice (some ⟨gb, 0, none⟩) N cb) (stg nm s2 K) ∧ Ext W3 wr) (fun i _ => N - (intOf i).toNat)
    case atStart => exact ⟨nm.length, Nat.le_refl _, by have := hNN.out; omega, rfl, by rw [stg_zero]; exact hcv.out, hEc.out⟩
    case round =>
      obtain ⟨K, hK1, hK2, rfl, hown, hE⟩ := hrel
      rename World => W5
      by_cases hlt : K < N
      · have hlen : K < nm.length + s2.length := by have := hNN.out; omega
        obtain ⟨c0, cf⟩ := hown.cell rfl K (by rw [stg_len]; exact hlen)
        rw [stg_at nm s2 K hK1 hlen] at c0
        have hset : OwnB 5 (W5.setCell ⟨gb, K, none⟩ (.int .u8 45)) gb (.slice (some ⟨gb, 0, none⟩) N cb) ((stg nm s2 K).set K 45) := hown.set K 45
        have hEs := hE.setCell (p := ⟨gb, K, none⟩) hgb.out (.int .u8 45)
        have hs1 := stg_set nm s2 K hK1 hlen
        have hs3 := stg_skip nm s2 K hK1 hlen
        have d1 : decide ((K : Int) < (N : Int)) = true := decide_eq_true (by omega)
        generalize (s2[K - nm.length]'(by omega)) = ch at c0 hs1 hs3
        clear hlen
        by_cases c1 : ch.toNat = 46
        · have b1 : ((ch.toNat : Int) == 46) = true := by rw [beq_iff_eq]; omega
          rw [dash_45 (.inl c1)] at hs1
          rw [hs1] at hset
          clear c1 hs1 hs3 hown hE
          replace hset := hide hset
          replace hEs := hide hEs
          go_wp2_with fail
          go_roundw
          case rel => exact ⟨K + 1, by omega, by omega, by go_num, hset.out, hEs.out⟩
          case measure => simp [intOf]; omega
        · have b1 : ((ch.toNat : Int) == 46) = false := by rw [beq_eq_false_iff_ne]; omega
          by_cases c2 : ch.toNat = 58
          · have b2 : ((ch.toNat : Int) == 58) = true := by rw [beq_iff_eq]; omega
            rw [dash_45 (.inr c2)] at hs1
            rw [hs1] at hset
            clear c1 c2 hs1 hs3 hown hE
            replace hset := hide hset
            replace hEs := hide hEs
            go_wp2_with fail
            go_roundw
            case rel => exact ⟨K + 1, by omega, by omega, by go_num, hset.out, hEs.out⟩
            case measure => simp [intOf]; omega
          · have b2 : ((ch.toNat : Int) == 58) = false := by rw [beq_eq_false_iff_ne]; omega
            replace hs3 := hide (hs3 (dash_id c1 c2))
            clear c1 c2 hs1 hset hEs
            replace hown := hide hown
            replace hE := hide hE
            go_wp2_with fail
            go_roundw
            case rel => exact ⟨K + 1, by omega, by omega, by go_num, by rw [hs3.out]; exact hown.out, hE.out⟩
            case measure => simp [intOf]; omega
      · obtain rfl : K = N := by omega
        have hdl : stg nm s2 K = dn := by rw [hNN.out]; exact hse.out
        have hdL : dn.length = K := by rw [← hdl, stg_len]; exact hNN.out.symm
        rw [hdl] at hown
        have P5 := P3.out.ext hE
        have R5 := R3.out.ext hE
        have E5 := E3.out.trans hE
        clear P3 R3 E3 hE hdl hse hNN hlt hK1 hK2 hcv hEc hgb
        by_cases hlen : 16 < K
        · have d1 : decide ((16 : Int) < (K : Int)) = true := decide_eq_true (by omega)
          have hth := blk_there R5 (n := ZA.size) (by rw [hza.out]; exact Nat.le_refl 23)
          have E6 := Ext.setCells21 hgw ZA.toList 0 _ E5
          have hr := World.rangeAt_setCells_same W5 (g0 + 1) 0 ZA.toList (by rw [Array.length_toList]; exact hth)
          have hlv := loadVar21 hr (by rw [Array.length_toList]; exact hza.out)
          rw [Array.toArray_toList] at hlv
          have hfin := hp2.out (W5.setCells (g0 + 1) 0 ZA.toList) (by omega) E6
          clear hr R5 E5 P5 hown hp2 hp3 hCN hdL
          replace hth := hide hth
          replace E6 := hide E6
          replace hlen := hide hlen
          replace hfin := hide hfin
          replace hlv := hide hlv
          go_wp2_with (first
            | (with_reducible refine wpList_buildC rfl 31 #[] rfl [] ZA (by simp) hbz.out ?_)
            | (with_reducible refine wpList_store_mid rfl 31 (.tmp 4) (.tmp 53) rfl (g0 + 1) 0 ZA rfl rfl hth.out hiza.out hzo.out ?_))
          exact bodyPost_ret (v := .tuple #[.agg ZA, .int .i64 3]) (results_pair21 Tryz.results11 rfl hlv.out rfl) rfl hfin.out
        · have d1 : decide ((16 : Int) < (K : Int)) = false := decide_eq_false (by omega)
          have hle : dn.length ≤ 16 := by omega
          have hcs := run_stringB (P := Tryz.prog) (src := 40) (dst := 9) Tryz.underlying40 Tryz.underlying5 Tryz.underlying9 hown
          have P4 := P5
          have R4 := R5
          have p0 : W5.cell? ⟨g0, 0, none⟩ = some (.string sn) := (P5.cell 0).trans (by rw [List.getElem?_toArray]; exact hC0.out)
          have p1 : W5.cell? ⟨g0, 1, none⟩ = some (.string ⟨x.addr.toArray⟩) := (P5.cell 1).trans (by rw [List.getElem?_toArray]; exact hC1.out)
          have p2 : W5.cell? ⟨g0, 2, none⟩ = some (.int .i64 x.range.fam) := (P5.cell 2).trans (by rw [List.getElem?_toArray]; exact hC2.out)
          have p3 : W5.cell? ⟨g0, 3, none⟩ = some (.int .u64 (x.range.rd : Int)) := (P5.cell 3).trans (by rw [List.getElem?_toArray]; exact hC3.out)
          have p4 : W5.cell? ⟨g0, 4, none⟩ = some (.string ⟨x.range.addr.toArray⟩) := (P5.cell 4).trans (by rw [List.getElem?_toArray]; exact hC4.out)
          have p5 : W5.cell? ⟨g0, 5, none⟩ = some (.int .i64 x.range.len) := (P5.cell 5).trans (by rw [List.getElem?_toArray]; exact hC5.out)
          have pf := fun i => P5.frozen i
          have P6 := (((((P5.set_ 0 (.string ⟨dn.toArray⟩)).set_ 1 (.string ⟨a.toArray⟩)).set_ 2 (.int .i64 0)).set_ 3 (.int .u64 0)).set_ 4 (.string ⟨#[]⟩)).set_ 5 (.int .i64 0)
          rw [hCN.out] at P6
          have R6 : Blk ((((((W5.setCell ⟨g0, 0, none⟩ (.string ⟨dn.toArray⟩)).setCell ⟨g0, 1, none⟩ (.string ⟨a.toArray⟩)).setCell ⟨g0, 2, none⟩ (.int .i64 0)).setCell ⟨g0, 3, none⟩ (.int .u64 0)).setCell ⟨g0, 4, none⟩ (.string ⟨#[]⟩)).setCell ⟨g0, 5, none⟩ (.int .i64 0)) (g0 + 1) 31 _ := ((((((R4.far (p := ⟨g0, 0, none⟩) (by show g0 + 1 ≠ g0; omega) _).far (p := ⟨g0, 1, none⟩) (by show g0 + 1 ≠ g0; omega) _).far (p := ⟨g0, 2, none⟩) (by show g0 + 1 ≠ g0; omega) _).far (p := ⟨g0, 3, none⟩) (by show g0 + 1 ≠ g0; omega) _).far (p := ⟨g0, 4, none⟩) (by show g0 + 1 ≠ g0; omega) _).far (p := ⟨g0, 5, none⟩) (by show g0 + 1 ≠ g0; omega) _)
          have E6 : Ext w ((((((W5.setCell ⟨g0, 0, none⟩ (.string ⟨dn.toArray⟩)).setCell ⟨g0, 1, none⟩ (.string ⟨a.toArray⟩)).setCell ⟨g0, 2, none⟩ (.int .i64 0)).setCell ⟨g0, 3, none⟩ (.int .u64 0)).setCell ⟨g0, 4, none⟩ (.string ⟨#[]⟩)).setCell ⟨g0, 5, none⟩ (.int .i64 0)) := ((((((E5.setCell (p := ⟨g0, 0, none⟩) hgw0 _).setCell (p := ⟨g0, 1, none⟩) hgw0 _).setCell (p := ⟨g0, 2, none⟩) hgw0 _).setCell (p := ⟨g0, 3, none⟩) hgw0 _).setCell (p := ⟨g0, 4, none⟩) hgw0 _).setCell (p := ⟨g0, 5, none⟩) hgw0 _)
          clear P5 R5 E5 P4 R4 hlen hp2 hown hdL
          replace P6 := hide P6
          replace R6 := hide R6
          replace E6 := hide E6
          replace hle := hide hle
          go_upto_region 15 with fail
          clear p0 p1 p2 p3 p4 p5 pf hcs d1
          generalize ((((((W5.setCell ⟨g0, 0, none⟩ (.string ⟨dn.toArray⟩)).setCell ⟨g0, 1, none⟩ (.string ⟨a.toArray⟩)).setCell ⟨g0, 2, none⟩ (.int .i64 0)).setCell ⟨g0, 3, none⟩ (.int .u64 0)).setCell ⟨g0, 4, none⟩ (.string ⟨#[]⟩)).setCell ⟨g0, 5, none⟩ (.int .i64 0)) = W6 at P6 R6 E6 ⊢
          have hiCN : (Tryz.prog.info? 31).map (·.size) = some CN.length := by rw [hNl.out]; kernel_rfl
          have hiCA : (Tryz.prog.info? 31).map (·.size) = some CN.toArray.size := by rw [List.size_toArray, hNl.out]; kernel_rfl
          have hCNo := all_oneCell_toArray hNo.out
          have hth := blk_there R6.out (n := CN.toArray.size) (by rw [List.size_toArray, hNl.out]; exact Nat.le_refl 23)
          have hra := blk_range P6.out
          have hr := World.rangeAt_setCells_same _ (g0 + 1) 0 CN (by have := hth; rwa [List.size_toArray] at this)
          have hlv := loadVar21 hr hNl.out
          have E8 := Ext.setCells21 hgw CN 0 _ E6.out
          have hfn := hp3.out _ hle.out E8
          clear hr P6 R6 E6 E8
          replace hth := hide hth
          replace hra := hide hra
          replace hiCN := hide hiCN
          replace hiCA := hide hiCA
          replace hCNo := hide hCNo
          replace hlv := hide hlv
          replace hfn := hide hfn
          go_wp2_with (first
            | (with_reducible refine wpList_load_mid rfl 31 (.tmp 2) rfl g0 0 rfl CN _ hra.out Tryz.underlying31 rfl hiCN.out ?_)
            | (with_reducible refine wpList_store_mid rfl 31 (.tmp 4) (.tmp 61) rfl (g0 + 1) 0 CN.toArray rfl rfl hth.out hiCA.out hCNo.out ?_))
          exact bodyPost_ret (v := .tuple #[.agg CN.toArray, .int .i64 0]) (results_pair21 Tryz.results11 rfl hlv.out rfl) rfl hfn.out
end Go.Proofs.YtmhmcdpadmimlaaGreatDoor
