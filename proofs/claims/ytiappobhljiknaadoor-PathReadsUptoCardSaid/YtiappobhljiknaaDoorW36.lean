/- The spoiler: it writes into the rows that it is handed, and into nothing else. -/
import Derived.Test.YtiappobhljiknaaDoorW14
import Derived.Test.YtiappobhljiknaaDoorA19
namespace Go.Proofs.YtiappobhljiknaaDoor
open Go.RowKit
set_option linter.unusedVariables false

set_option maxRecDepth 20000 in
set_option maxHeartbeats 2000000 in
theorem spoil_only (a : Option Addr) (n c : Nat) (S : Nat → Prop) (w : World) (hl : n ≤ 16777216) (hs : Spoilt w S a n) :
    Calls Tryd.prog 33 #[.slice a n c] w fun e w' => e = .returned (.tuple #[]) ∧ Only S w w' := by
  rcases Nat.eq_zero_or_pos n with rfl | hz
  · clear hs
    go_enter Tryd.func33, Tryd.ntmps33
    go_wp2
    go_loopw [2] (fun i wr => i = .int .i64 0 ∧ wr = w) (fun _ _ => 0)
    case atStart => exact ⟨rfl, rfl⟩
    case round =>
      obtain ⟨rfl, rfl⟩ := hrel
      go_wp2
      go_end0
      exact ⟨rfl, Only.refl _ _⟩
  · rcases hs with hs | ⟨g, rfl, hj⟩
    · omega
    go_enter Tryd.func33, Tryd.ntmps33
    go_wp2
    go_loopw [2] (fun i wr => ∃ k : Nat, k ≤ n ∧ i = .int .i64 k ∧ JunkS wr S g n ∧ Only S w wr) (fun i _ => n - (intOf i).toNat)
    case atStart => exact ⟨0, Nat.zero_le _, rfl, hj, Only.refl _ _⟩
    case round =>
      obtain ⟨k, hk, rfl, hj, hb⟩ := hrel
      by_cases hlt : k < n
      · obtain ⟨u, b, m, cc, h0, h1, hm, f0, f1, hw, hne⟩ := hj.2 k hlt
        have hSg := hj.1
        replace hSg := hide hSg
        replace hj := hide hj
        replace hb := hide hb
        replace hne := hide hne
        replace hw := hide hw
        go_wp2
        go_loopw [3] (fun q wq => ∃ j : Nat, j ≤ m ∧ q = .int .i64 j ∧ JunkS wq S g n ∧ Only S w wq ∧ WrS wq S b m ∧ wq.cell? ⟨g, k * 2, none⟩ = some u ∧ wq.cell? ⟨g, k * 2 + 1, none⟩ = some (.slice b m cc) ∧ wq.frozen? ⟨g, k * 2, none⟩ = false ∧ wq.frozen? ⟨g, k * 2 + 1, none⟩ = false) (fun q _ => m - (intOf q).toNat)
        case atStart => exact ⟨0, Nat.zero_le _, rfl, hj.out, hb.out, hw.out, h0, h1, f0, f1⟩
        case round =>
          clear h0 h1 f0 f1 hj hb hw
          obtain ⟨j, hjm, rfl, hj, hb, hw, h0, h1, f0, f1⟩ := hrel
          by_cases hlj : j < m
          · obtain ⟨x, p, y, rfl, hBx, hx1, hx2⟩ := hw.at j hlj
            have hxg := hne.out (by omega) x p rfl
            replace hBx := hide hBx
            replace hj := hide hj
            replace hb := hide hb
            replace hw := hide hw
            go_wp2
            go_roundw
            case rel => exact ⟨j + 1, by omega, by go_num, hj.out.setN _ _ hxg, hb.out.setCell _ hBx.out _, hw.out.kept ((Kept.refl _).set _ _), by rw [World.cell?_setCell_far _ _ _ _ (by exact hxg)]; exact h0, by rw [World.cell?_setCell_far _ _ _ _ (by exact hxg)]; exact h1, by simpa using f0, by simpa using f1⟩
            case measure => simp [intOf]; omega
          · replace hj := hide hj
            replace hb := hide hb
            replace hw := hide hw
            go_wp2
            go_roundw
            case rel => exact ⟨k + 1, by omega, by go_num, hj.out.set2 k hlt _, (hb.out.setCell _ hSg.out _).setCell _ hSg.out _⟩
            case measure => simp [intOf]; omega
      · go_wp2
        go_end0
        exact ⟨rfl, hb⟩
end Go.Proofs.YtiappobhljiknaaDoor
