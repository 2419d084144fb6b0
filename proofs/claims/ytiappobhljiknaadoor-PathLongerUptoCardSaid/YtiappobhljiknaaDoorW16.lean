/- The spoiler: it writes into each row that it is handed, and into nothing else. -/
import Derived.Test.YtiappobhljiknaaDoorW14
namespace Go.Proofs.YtiappobhljiknaaDoor
open Go.RowKit
set_option linter.unusedVariables false

set_option maxRecDepth 20000 in
set_option maxHeartbeats 2000000 in
theorem spoil_any (v : Value) (B : Nat) (l : List Seg) (w : World) (hl : l.length ≤ 16777216) (hs : Own ESegW 48 w B v l) :
    Calls Tryd.prog 33 #[v] w fun e w' => e = .returned (.tuple #[]) ∧ Below B w w' ∧ Kept w w' := by
  obtain ⟨a, c, rfl, hcap, hp⟩ := hs.weak.toPath
  clear hp
  rcases Nat.eq_zero_or_pos l.length with hz | hz
  · rw [hz]
    go_enter Tryd.func33, Tryd.ntmps33
    go_wp2
    go_loopw [2] (fun i wr => i = .int .i64 0 ∧ wr = w) (fun _ _ => 0)
    case atStart => exact ⟨rfl, rfl⟩
    case round =>
      obtain ⟨rfl, rfl⟩ := hrel
      go_wp2
      go_end0
      exact ⟨rfl, Below.refl _ _, Kept.refl _⟩
  · have hca : ∃ g, a = some ⟨g, 0, none⟩ := by
      obtain ⟨xs, ho, _⟩ := hs
      rcases ho.2 with ⟨hv, hz⟩ | ⟨g, cap, cur, hv, _⟩
      · injection hv with _ hv _
        omega
      · injection hv with hv _ _
        exact ⟨g, hv⟩
    obtain ⟨g, rfl⟩ := hca
    have hj := hs.junk
    clear hs
    generalize l.length = n at *
    go_enter Tryd.func33, Tryd.ntmps33
    go_wp2
    go_loopw [2] (fun i wr => ∃ k : Nat, k ≤ n ∧ i = .int .i64 k ∧ Junk wr B g n ∧ Below B w wr ∧ Kept w wr) (fun i _ => n - (intOf i).toNat)
    case atStart => exact ⟨0, Nat.zero_le _, rfl, hj, Below.refl _ _, Kept.refl _⟩
    case round =>
      obtain ⟨k, hk, rfl, hj, hb, hK⟩ := hrel
      by_cases hlt : k < n
      · obtain ⟨u, b, m, cc, h0, h1, hm, f0, f1, hw, hne⟩ := hj.2 k hlt
        have hBg := hj.1
        replace hj := hide hj
        replace hb := hide hb
        replace hK := hide hK
        replace hne := hide hne
        replace hw := hide hw
        go_wp2
        go_loopw [3] (fun q wq => ∃ j : Nat, j ≤ m ∧ q = .int .i64 j ∧ Junk wq B g n ∧ Below B w wq ∧ Kept w wq ∧ Wr wq B b m ∧ wq.cell? ⟨g, k * 2, none⟩ = some u ∧ wq.cell? ⟨g, k * 2 + 1, none⟩ = some (.slice b m cc) ∧ wq.frozen? ⟨g, k * 2, none⟩ = false ∧ wq.frozen? ⟨g, k * 2 + 1, none⟩ = false) (fun q _ => m - (intOf q).toNat)
        case atStart => exact ⟨0, Nat.zero_le _, rfl, hj.out, hb.out, hK.out, hw.out, h0, h1, f0, f1⟩
        case round =>
          clear h0 h1 f0 f1 hj hb hK hw
          obtain ⟨j, hjm, rfl, hj, hb, hK, hw, h0, h1, f0, f1⟩ := hrel
          by_cases hlj : j < m
          · obtain ⟨x, p, y, rfl, hBx, hx1, hx2⟩ := hw.at j hlj
            have hxg := hne.out (by omega) x p rfl
            replace hj := hide hj
            replace hb := hide hb
            replace hK := hide hK
            replace hw := hide hw
            go_wp2
            go_roundw
            case rel => exact ⟨j + 1, by omega, by go_num, hj.out.setN _ _ hxg, hb.out.setCell hBx _, hK.out.set _ _, hw.out.kept ((Kept.refl _).set _ _), by rw [World.cell?_setCell_far _ _ _ _ (by exact hxg)]; exact h0, by rw [World.cell?_setCell_far _ _ _ _ (by exact hxg)]; exact h1, by simpa using f0, by simpa using f1⟩
            case measure => simp [intOf]; omega
          · have hBg := hj.1
            replace hj := hide hj
            replace hb := hide hb
            replace hK := hide hK
            replace hw := hide hw
            go_wp2
            go_roundw
            case rel => exact ⟨k + 1, by omega, by go_num, hj.out.set2 k hlt _, (hb.out.setCell hBg _).setCell hBg _, (hK.out.set _ _).set _ _⟩
            case measure => simp [intOf]; omega
      · go_wp2
        go_end0
        exact ⟨rfl, hb, hK⟩
end Go.Proofs.YtiappobhljiknaaDoor
