/- The law PolcAgain, walked. -/
import Derived.Test.YtljibkfbldjgdaaGreatDoorFQ
import Derived.Test.YtljibkfbldjgdaaGreatDoorER
namespace Go.Proofs.YtljibkfbldjgdaaGreatDoor
open Go.RowKit
set_option linter.unusedVariables false

theorem termO_ok {s : List UInt8} {t : TermS} (h : termO s = some t) : termOk t = true ∧ termT t = (s, 0) := by
  have h1 := termO_some h
  refine ⟨?_, h1⟩
  cases hk : termOk t with
  | true => rfl
  | false =>
    unfold termT at h1
    rw [if_neg (by rw [hk]; decide)] at h1
    injection h1 with _ h1
    cases h1
theorem termOk_len {t : TermS} (h : termOk t = true) : t.conds.length ≤ 64 ∧ t.acts.length ≤ 64 := by
  unfold termOk at h
  simp only [Bool.and_eq_true, decide_eq_true_eq] at h
  exact ⟨h.1, h.2.1.2⟩
set_option maxRecDepth 20000 in
set_option maxHeartbeats 4000000 in
theorem PolcAgain_walk (s : List UInt8) (w : World) (hs : s.length ≤ 1048576) (hT : Tab w) (hD : Deb w) (hV : Vars w) :
    Calls Tryz.prog 6 #[.string ⟨s.toArray⟩] w fun e w' => e = .returned (.bool true) ∧ Ext w w' := by
  have qw := fun W (h : Ext w W) => PWorks_any W (hT.ext h) (hD.ext h) (hV.ext h)
  have qp := fun W (h : Ext w W) => PTerm_any s hs W (hT.ext h) (hV.ext h) (hD.ext h)
  have qt := fun a1 c1 a2 c2 t W (h : Ext w W) h1 h2 h3 s1 s2 => PTermText_any a1 c1 a2 c2 t W h1 h2 h3 s1 s2 (hT.ext h) (hD.ext h)
  unfold TeP at qp
  clear hT hD hV
  cases ho : termO s with
  | none =>
    rw [ho] at qp
    clear ho qt hs
    replace qw := hide qw
    replace qp := hide qp
    go_enter Tryz.func6, Tryz.ntmps6
    go_wp2_with fail
    (with_reducible refine (qw.out _ (Ext.refl _)).mono ?_)
    rintro e w1 ⟨rfl, E⟩
    replace E := hide E
    go_wp2_with fail
    (with_reducible refine (qp.out _ E.out).mono ?_)
    rintro e w2 ⟨⟨f1, rfl, -, F⟩, he⟩
    replace F := F.alloc (Obj.cells #[.slice none 0 0, .slice none 0 0] 25)
    have f0 : (w2.alloc (Obj.cells #[.slice none 0 0, .slice none 0 0] 25)).cell? ⟨f1, 0, none⟩ = some (.int .i64 9) := F.cell 0
    have qi := isF_any ⟨f1, 0, none⟩ 9 9 _ f0
    rw [show ((9 : Int) == 9) = true by decide] at qi
    replace E := hide (E.out.trans (he.trans ((Ext.refl w2).alloc (Obj.cells #[.slice none 0 0, .slice none 0 0] 25))))
    replace qi := hide qi
    clear he f0 F
    go_wp2_with fail
    (with_reducible refine (qi.out).mono ?_)
    rintro e w_ ⟨rfl, rfl⟩
    go_wp2_with fail
    go_ret
    exact ⟨rfl, E.out⟩
  | some t =>
    rw [ho] at qp
    obtain ⟨hok, htx⟩ := termO_ok ho
    obtain ⟨k1, k2⟩ := termOk_len hok
    clear ho hs hok
    replace qw := hide qw
    replace qp := hide qp
    replace qt := hide qt
    replace k1 := hide k1
    replace k2 := hide k2
    replace htx := hide htx
    go_enter Tryz.func6, Tryz.ntmps6
    go_wp2_with fail
    (with_reducible refine (qw.out _ (Ext.refl _)).mono ?_)
    rintro e w1 ⟨rfl, E⟩
    replace E := hide E
    go_wp2_with fail
    (with_reducible refine (qp.out _ E.out).mono ?_)
    rintro e w2 ⟨⟨v1, v2, rfl, o1, o2⟩, he⟩
    obtain ⟨b1, d1, rfl, n1, y1⟩ := o1.slc
    obtain ⟨b2, d2, rfl, n2, y2⟩ := o2.slc
    replace y1 := y1.mono (S' := (· < w2.heap.size)) fun b hb => hb.2
    replace y2 := y2.mono (S' := (· < w2.heap.size)) fun b hb => hb.2
    have F := (Ext.refl w2).alloc (Obj.cells #[.slice b1 t.conds.length d1, .slice b2 t.acts.length d2] 25)
    replace E := E.out.trans (he.trans F)
    have q := qt.out b1 d1 b2 d2 t _ E (by have := k1.out; omega) (by have := k2.out; omega) n2 (y1.ext F) (y2.ext F)
    rw [htx.out] at q
    replace E := hide E
    replace q := hide q
    clear he o1 o2 F qp n1 n2 y1 y2 qt htx k1 k2
    go_wp2_with fail
    (with_reducible refine (q.out).mono ?_)
    rintro e w3 ⟨rfl, he⟩
    replace E := hide (E.out.trans he)
    clear he q
    go_wp2_with fail
    go_ret
    exact ⟨rfl, E.out⟩
end Go.Proofs.YtljibkfbldjgdaaGreatDoor
