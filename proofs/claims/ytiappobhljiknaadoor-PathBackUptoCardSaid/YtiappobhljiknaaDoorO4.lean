/- The arguments of chapter 4's laws, opened. -/
import Derived.Test.YtiappobhljiknaaDoorOpen
import Derived.Test.YtiappobhljiknaaDoorA4
namespace Go.Proofs.YtiappobhljiknaaDoor
open Go.RowKit
theorem opens_u32_ : Opens Tryd.prog 31 EU32 := opens_u32 Tryd.underlying31 (by kernel_rfl)
theorem opens_u32s : Opens Tryd.prog 37 EU32.slice := opens_slice Tryd.underlying37 (by kernel_rfl) opens_u32_ (by decide)
theorem opens_int : Opens Tryd.prog 3 EI64 := opens_i64 Tryd.underlying3 (by kernel_rfl)
set_option maxRecDepth 100000 in
theorem opens_ESeg : Opens Tryd.prog 48 ESeg :=
  opens_map (opens_struct Tryd.underlying48 (by kernel_rfl) (opensF_cons rfl rfl opens_int (opensF_last rfl rfl opens_u32s rfl))) _ (fun p => ⟨p.1, p.2⟩) (fun _ => rfl)
end Go.Proofs.YtiappobhljiknaaDoor
