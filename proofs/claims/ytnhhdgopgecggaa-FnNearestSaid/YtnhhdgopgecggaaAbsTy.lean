/- The abstract machine: what the rules ask of the program's types. No condition. -/
import Derived.Test.YtnhhdgopgecggaaAbsEy
import Derived.Test.YtnhhdgopgecggaaProg
set_option linter.unusedVariables false
namespace Go.Proofs.Ytnhhdgopgecggaa.Abs
open Go
set_option maxRecDepth 100000

theorem mix : Try.prog.follows .mixedOrders = true := by decide +kernel

theorem row_29 : rowT Try.prog 29 = some (.float .f32 0) := by kernel_rfl
theorem len_29 : ∀ a n c, aLen Try.prog 29 (.slice a n c) = some (.int .i64 n) := fun a n c => row_len row_29 a n c
theorem idx_29 : ∀ k i b off n c, aIndexAddr Try.prog 29 (.slice (some ⟨b, off, none⟩) n c) (.int k i) = if 0 ≤ i ∧ i < n then some (.pointer (some ⟨b, off + i.toNat, none⟩)) else none := fun k i b off n c => row_index row_29 k i b off n c
theorem src_29 : ∀ a n c, srcT Try.prog 29 (.slice a n c) = true := fun a n c => srcT_row row_29 a n c
theorem agg_29 : aggT Try.prog 29 = some false := by kernel_rfl
theorem sz_29 : szT Try.prog 29 = some 1 := by kernel_rfl
theorem row_44 : rowT Try.prog 44 = some (.slice none 0 0) := by kernel_rfl
theorem len_44 : ∀ a n c, aLen Try.prog 44 (.slice a n c) = some (.int .i64 n) := fun a n c => row_len row_44 a n c
theorem idx_44 : ∀ k i b off n c, aIndexAddr Try.prog 44 (.slice (some ⟨b, off, none⟩) n c) (.int k i) = if 0 ≤ i ∧ i < n then some (.pointer (some ⟨b, off + i.toNat, none⟩)) else none := fun k i b off n c => row_index row_44 k i b off n c
theorem src_44 : ∀ a n c, srcT Try.prog 44 (.slice a n c) = true := fun a n c => srcT_row row_44 a n c
theorem agg_44 : aggT Try.prog 44 = some false := by kernel_rfl
theorem sz_44 : szT Try.prog 44 = some 1 := by kernel_rfl
theorem row_53 : rowT Try.prog 53 = some (.int .i64 0) := by kernel_rfl
theorem len_53 : ∀ a n c, aLen Try.prog 53 (.slice a n c) = some (.int .i64 n) := fun a n c => row_len row_53 a n c
theorem idx_53 : ∀ k i b off n c, aIndexAddr Try.prog 53 (.slice (some ⟨b, off, none⟩) n c) (.int k i) = if 0 ≤ i ∧ i < n then some (.pointer (some ⟨b, off + i.toNat, none⟩)) else none := fun k i b off n c => row_index row_53 k i b off n c
theorem src_53 : ∀ a n c, srcT Try.prog 53 (.slice a n c) = true := fun a n c => srcT_row row_53 a n c
theorem agg_53 : aggT Try.prog 53 = some false := by kernel_rfl
theorem sz_53 : szT Try.prog 53 = some 1 := by kernel_rfl
theorem row_22 : rowT Try.prog 22 = some (.int .u8 0) := by kernel_rfl
theorem len_22 : ∀ a n c, aLen Try.prog 22 (.slice a n c) = some (.int .i64 n) := fun a n c => row_len row_22 a n c
theorem idx_22 : ∀ k i b off n c, aIndexAddr Try.prog 22 (.slice (some ⟨b, off, none⟩) n c) (.int k i) = if 0 ≤ i ∧ i < n then some (.pointer (some ⟨b, off + i.toNat, none⟩)) else none := fun k i b off n c => row_index row_22 k i b off n c
theorem src_22 : ∀ a n c, srcT Try.prog 22 (.slice a n c) = true := fun a n c => srcT_row row_22 a n c
theorem agg_22 : aggT Try.prog 22 = some false := by kernel_rfl
theorem sz_22 : szT Try.prog 22 = some 1 := by kernel_rfl
theorem row_32 : rowT Try.prog 32 = some (.bool false) := by kernel_rfl
theorem len_32 : ∀ a n c, aLen Try.prog 32 (.slice a n c) = some (.int .i64 n) := fun a n c => row_len row_32 a n c
theorem idx_32 : ∀ k i b off n c, aIndexAddr Try.prog 32 (.slice (some ⟨b, off, none⟩) n c) (.int k i) = if 0 ≤ i ∧ i < n then some (.pointer (some ⟨b, off + i.toNat, none⟩)) else none := fun k i b off n c => row_index row_32 k i b off n c
theorem src_32 : ∀ a n c, srcT Try.prog 32 (.slice a n c) = true := fun a n c => srcT_row row_32 a n c
theorem agg_32 : aggT Try.prog 32 = some false := by kernel_rfl
theorem sz_32 : szT Try.prog 32 = some 1 := by kernel_rfl
theorem row_100 : rowT Try.prog 100 = some (.int .i64 0) := by kernel_rfl
theorem len_100 : ∀ a n c, aLen Try.prog 100 (.slice a n c) = some (.int .i64 n) := fun a n c => row_len row_100 a n c
theorem idx_100 : ∀ k i b off n c, aIndexAddr Try.prog 100 (.slice (some ⟨b, off, none⟩) n c) (.int k i) = if 0 ≤ i ∧ i < n then some (.pointer (some ⟨b, off + i.toNat, none⟩)) else none := fun k i b off n c => row_index row_100 k i b off n c
theorem src_100 : ∀ a n c, srcT Try.prog 100 (.slice a n c) = true := fun a n c => srcT_row row_100 a n c
theorem agg_100 : aggT Try.prog 100 = some false := by kernel_rfl
theorem sz_100 : szT Try.prog 100 = some 1 := by kernel_rfl
theorem agg_2 : aggT Try.prog 2 = some false := by kernel_rfl
theorem sz_2 : szT Try.prog 2 = some 1 := by kernel_rfl
theorem agg_3 : aggT Try.prog 3 = some false := by kernel_rfl
theorem sz_3 : szT Try.prog 3 = some 1 := by kernel_rfl
theorem agg_4 : aggT Try.prog 4 = some false := by kernel_rfl
theorem sz_4 : szT Try.prog 4 = some 1 := by kernel_rfl
theorem agg_5 : aggT Try.prog 5 = some false := by kernel_rfl
theorem sz_5 : szT Try.prog 5 = some 1 := by kernel_rfl
theorem agg_24 : aggT Try.prog 24 = some false := by kernel_rfl
theorem sz_24 : szT Try.prog 24 = some 1 := by kernel_rfl
theorem agg_39 : aggT Try.prog 39 = some false := by kernel_rfl
theorem sz_39 : szT Try.prog 39 = some 1 := by kernel_rfl
theorem agg_104 : aggT Try.prog 104 = some false := by kernel_rfl
theorem sz_104 : szT Try.prog 104 = some 1 := by kernel_rfl
theorem agg_121 : aggT Try.prog 121 = some false := by kernel_rfl
theorem sz_121 : szT Try.prog 121 = some 1 := by kernel_rfl
theorem struct_26 : structT Try.prog 26 = some ([.float .f32 0, .float .f32 0, .float .f32 0, .float .f32 0, .float .f32 0, .float .f32 0, .float .f32 0, .float .f32 0], [(0, 1), (1, 1), (2, 1), (3, 1), (4, 1), (5, 1), (6, 1), (7, 1)]) := by kernel_rfl
theorem agg_26 : aggT Try.prog 26 = some true := by kernel_rfl
theorem sz_26 : szT Try.prog 26 = some 8 := by kernel_rfl
theorem zero_26 : zeroT Try.prog 26 = some (.agg ⟨[.float .f32 0, .float .f32 0, .float .f32 0, .float .f32 0, .float .f32 0, .float .f32 0, .float .f32 0, .float .f32 0]⟩) := by kernel_rfl
theorem alloc_26 : ∀ H, aAlloc Try.prog 26 H = some (aNew [.float .f32 0, .float .f32 0, .float .f32 0, .float .f32 0, .float .f32 0, .float .f32 0, .float .f32 0, .float .f32 0] H) := fun H => aAlloc_of Try.prog zero_26 (by rfl) H
theorem fa_26_0 : ∀ b off, aFieldAddr Try.prog 26 (.pointer (some ⟨b, off, none⟩)) 0 = some (.pointer (some ⟨b, off + 0, none⟩)) := fun b off => faddr_of (by kernel_rfl : faddrT Try.prog 26 0 = some 0) b off
theorem fa_26_1 : ∀ b off, aFieldAddr Try.prog 26 (.pointer (some ⟨b, off, none⟩)) 1 = some (.pointer (some ⟨b, off + 1, none⟩)) := fun b off => faddr_of (by kernel_rfl : faddrT Try.prog 26 1 = some 1) b off
theorem fa_26_2 : ∀ b off, aFieldAddr Try.prog 26 (.pointer (some ⟨b, off, none⟩)) 2 = some (.pointer (some ⟨b, off + 2, none⟩)) := fun b off => faddr_of (by kernel_rfl : faddrT Try.prog 26 2 = some 2) b off
theorem fa_26_3 : ∀ b off, aFieldAddr Try.prog 26 (.pointer (some ⟨b, off, none⟩)) 3 = some (.pointer (some ⟨b, off + 3, none⟩)) := fun b off => faddr_of (by kernel_rfl : faddrT Try.prog 26 3 = some 3) b off
theorem fa_26_4 : ∀ b off, aFieldAddr Try.prog 26 (.pointer (some ⟨b, off, none⟩)) 4 = some (.pointer (some ⟨b, off + 4, none⟩)) := fun b off => faddr_of (by kernel_rfl : faddrT Try.prog 26 4 = some 4) b off
theorem fa_26_5 : ∀ b off, aFieldAddr Try.prog 26 (.pointer (some ⟨b, off, none⟩)) 5 = some (.pointer (some ⟨b, off + 5, none⟩)) := fun b off => faddr_of (by kernel_rfl : faddrT Try.prog 26 5 = some 5) b off
theorem fa_26_6 : ∀ b off, aFieldAddr Try.prog 26 (.pointer (some ⟨b, off, none⟩)) 6 = some (.pointer (some ⟨b, off + 6, none⟩)) := fun b off => faddr_of (by kernel_rfl : faddrT Try.prog 26 6 = some 6) b off
theorem fa_26_7 : ∀ b off, aFieldAddr Try.prog 26 (.pointer (some ⟨b, off, none⟩)) 7 = some (.pointer (some ⟨b, off + 7, none⟩)) := fun b off => faddr_of (by kernel_rfl : faddrT Try.prog 26 7 = some 7) b off
theorem struct_106 : structT Try.prog 106 = some ([.slice none 0 0, .int .i64 0, .int .u64 0], [(0, 1), (1, 1), (2, 1)]) := by kernel_rfl
theorem agg_106 : aggT Try.prog 106 = some true := by kernel_rfl
theorem sz_106 : szT Try.prog 106 = some 3 := by kernel_rfl
theorem zero_106 : zeroT Try.prog 106 = some (.agg ⟨[.slice none 0 0, .int .i64 0, .int .u64 0]⟩) := by kernel_rfl
theorem alloc_106 : ∀ H, aAlloc Try.prog 106 H = some (aNew [.slice none 0 0, .int .i64 0, .int .u64 0] H) := fun H => aAlloc_of Try.prog zero_106 (by rfl) H
theorem fa_106_0 : ∀ b off, aFieldAddr Try.prog 106 (.pointer (some ⟨b, off, none⟩)) 0 = some (.pointer (some ⟨b, off + 0, none⟩)) := fun b off => faddr_of (by kernel_rfl : faddrT Try.prog 106 0 = some 0) b off
theorem fa_106_1 : ∀ b off, aFieldAddr Try.prog 106 (.pointer (some ⟨b, off, none⟩)) 1 = some (.pointer (some ⟨b, off + 1, none⟩)) := fun b off => faddr_of (by kernel_rfl : faddrT Try.prog 106 1 = some 1) b off
theorem fa_106_2 : ∀ b off, aFieldAddr Try.prog 106 (.pointer (some ⟨b, off, none⟩)) 2 = some (.pointer (some ⟨b, off + 2, none⟩)) := fun b off => faddr_of (by kernel_rfl : faddrT Try.prog 106 2 = some 2) b off
theorem struct_124 : structT Try.prog 124 = some ([.slice none 0 0, .int .i64 0], [(0, 1), (1, 1)]) := by kernel_rfl
theorem agg_124 : aggT Try.prog 124 = some true := by kernel_rfl
theorem sz_124 : szT Try.prog 124 = some 2 := by kernel_rfl
theorem zero_124 : zeroT Try.prog 124 = some (.agg ⟨[.slice none 0 0, .int .i64 0]⟩) := by kernel_rfl
theorem alloc_124 : ∀ H, aAlloc Try.prog 124 H = some (aNew [.slice none 0 0, .int .i64 0] H) := fun H => aAlloc_of Try.prog zero_124 (by rfl) H
theorem fa_124_0 : ∀ b off, aFieldAddr Try.prog 124 (.pointer (some ⟨b, off, none⟩)) 0 = some (.pointer (some ⟨b, off + 0, none⟩)) := fun b off => faddr_of (by kernel_rfl : faddrT Try.prog 124 0 = some 0) b off
theorem fa_124_1 : ∀ b off, aFieldAddr Try.prog 124 (.pointer (some ⟨b, off, none⟩)) 1 = some (.pointer (some ⟨b, off + 1, none⟩)) := fun b off => faddr_of (by kernel_rfl : faddrT Try.prog 124 1 = some 1) b off
theorem conv_24_39 : ∀ q p, aConv Try.prog 24 39 (.float q p) = (fconv q p .f64).map (.float .f64) := fun q p => conv_ff Try.prog (by kernel_rfl : Try.prog.underlying 24 = some (.float .f32)) (by kernel_rfl : Try.prog.underlying 39 = some (.float .f64)) q p
theorem conv_2_24 : ∀ q n, aConv Try.prog 2 24 (.int q n) = some (.float .f32 (FloatKind.f32.nearest n)) := fun q n => conv_if Try.prog (by kernel_rfl : Try.prog.underlying 2 = some (.int .i64)) (by kernel_rfl : Try.prog.underlying 24 = some (.float .f32)) q n
theorem conv_3_24 : ∀ q n, aConv Try.prog 3 24 (.int q n) = some (.float .f32 (FloatKind.f32.nearest n)) := fun q n => conv_if Try.prog (by kernel_rfl : Try.prog.underlying 3 = some (.int .i64)) (by kernel_rfl : Try.prog.underlying 24 = some (.float .f32)) q n
theorem conv_3_133 : ∀ q n, aConv Try.prog 3 133 (.int q n) = some (.int .u64 (IntKind.u64.wrap n)) := fun q n => conv_ii Try.prog (by kernel_rfl : Try.prog.underlying 3 = some (.int .i64)) (by kernel_rfl : Try.prog.underlying 133 = some (.int .u64)) q n
theorem conv_133_3 : ∀ q n, aConv Try.prog 133 3 (.int q n) = some (.int .i64 (IntKind.i64.wrap n)) := fun q n => conv_ii Try.prog (by kernel_rfl : Try.prog.underlying 133 = some (.int .u64)) (by kernel_rfl : Try.prog.underlying 3 = some (.int .i64)) q n
theorem conv_39_24 : ∀ q p, aConv Try.prog 39 24 (.float q p) = (fconv q p .f32).map (.float .f32) := fun q p => conv_ff Try.prog (by kernel_rfl : Try.prog.underlying 39 = some (.float .f64)) (by kernel_rfl : Try.prog.underlying 24 = some (.float .f32)) q p
theorem conv_2_39 : ∀ q n, aConv Try.prog 2 39 (.int q n) = some (.float .f64 (FloatKind.f64.nearest n)) := fun q n => conv_if Try.prog (by kernel_rfl : Try.prog.underlying 2 = some (.int .i64)) (by kernel_rfl : Try.prog.underlying 39 = some (.float .f64)) q n
theorem conv_5_2 : ∀ q n, aConv Try.prog 5 2 (.int q n) = some (.int .i64 (IntKind.i64.wrap n)) := fun q n => conv_ii Try.prog (by kernel_rfl : Try.prog.underlying 5 = some (.int .u8)) (by kernel_rfl : Try.prog.underlying 2 = some (.int .i64)) q n
theorem conv_104_2 : ∀ q n, aConv Try.prog 104 2 (.int q n) = some (.int .i64 (IntKind.i64.wrap n)) := fun q n => conv_ii Try.prog (by kernel_rfl : Try.prog.underlying 104 = some (.int .u64)) (by kernel_rfl : Try.prog.underlying 2 = some (.int .i64)) q n
theorem conv_2_5 : ∀ q n, aConv Try.prog 2 5 (.int q n) = some (.int .u8 (IntKind.u8.wrap n)) := fun q n => conv_ii Try.prog (by kernel_rfl : Try.prog.underlying 2 = some (.int .i64)) (by kernel_rfl : Try.prog.underlying 5 = some (.int .u8)) q n
theorem conv_5_3 : ∀ q n, aConv Try.prog 5 3 (.int q n) = some (.int .i64 (IntKind.i64.wrap n)) := fun q n => conv_ii Try.prog (by kernel_rfl : Try.prog.underlying 5 = some (.int .u8)) (by kernel_rfl : Try.prog.underlying 3 = some (.int .i64)) q n
theorem conv_3_104 : ∀ q n, aConv Try.prog 3 104 (.int q n) = some (.int .u64 (IntKind.u64.wrap n)) := fun q n => conv_ii Try.prog (by kernel_rfl : Try.prog.underlying 3 = some (.int .i64)) (by kernel_rfl : Try.prog.underlying 104 = some (.int .u64)) q n
theorem conv_121_2 : ∀ q n, aConv Try.prog 121 2 (.int q n) = some (.int .i64 (IntKind.i64.wrap n)) := fun q n => conv_ii Try.prog (by kernel_rfl : Try.prog.underlying 121 = some (.int .u32)) (by kernel_rfl : Try.prog.underlying 2 = some (.int .i64)) q n
theorem beql : ∀ x y a b, aBin Try.prog .eql 4 x y (.bool a) (.bool b) = some (.bool (decide (a = b))) := fun x y a b => bin_beql (by kernel_rfl) x y a b
theorem bneq : ∀ x y a b, aBin Try.prog .neq 4 x y (.bool a) (.bool b) = some (.bool (!decide (a = b))) := fun x y a b => bin_bneq (by kernel_rfl) x y a b
theorem tys : type_of% (And.intro row_29 <| And.intro len_29 <| And.intro idx_29 <| And.intro src_29 <| And.intro agg_29 <| And.intro sz_29 <| And.intro row_44 <| And.intro len_44 <| And.intro idx_44 <| And.intro src_44 <| And.intro agg_44 <| And.intro sz_44 <| And.intro row_53 <| And.intro len_53 <| And.intro idx_53 <| And.intro src_53 <| And.intro agg_53 <| And.intro sz_53 <| And.intro row_22 <| And.intro len_22 <| And.intro idx_22 <| And.intro src_22 <| And.intro agg_22 <| And.intro sz_22 <| And.intro row_32 <| And.intro len_32 <| And.intro idx_32 <| And.intro src_32 <| And.intro agg_32 <| And.intro sz_32 <| And.intro row_100 <| And.intro len_100 <| And.intro idx_100 <| And.intro src_100 <| And.intro agg_100 <| And.intro sz_100 <| And.intro agg_2 <| And.intro sz_2 <| And.intro agg_3 <| And.intro sz_3 <| And.intro agg_4 <| And.intro sz_4 <| And.intro agg_5 <| And.intro sz_5 <| And.intro agg_24 <| And.intro sz_24 <| And.intro agg_39 <| And.intro sz_39 <| And.intro agg_104 <| And.intro sz_104 <| And.intro agg_121 <| And.intro sz_121 <| And.intro struct_26 <| And.intro agg_26 <| And.intro sz_26 <| And.intro zero_26 <| And.intro alloc_26 <| And.intro fa_26_0 <| And.intro fa_26_1 <| And.intro fa_26_2 <| And.intro fa_26_3 <| And.intro fa_26_4 <| And.intro fa_26_5 <| And.intro fa_26_6 <| And.intro fa_26_7 <| And.intro struct_106 <| And.intro agg_106 <| And.intro sz_106 <| And.intro zero_106 <| And.intro alloc_106 <| And.intro fa_106_0 <| And.intro fa_106_1 <| And.intro fa_106_2 <| And.intro struct_124 <| And.intro agg_124 <| And.intro sz_124 <| And.intro zero_124 <| And.intro alloc_124 <| And.intro fa_124_0 <| And.intro fa_124_1 <| And.intro conv_24_39 <| And.intro conv_2_24 <| And.intro conv_3_24 <| And.intro conv_3_133 <| And.intro conv_133_3 <| And.intro conv_39_24 <| And.intro conv_2_39 <| And.intro conv_5_2 <| And.intro conv_104_2 <| And.intro conv_2_5 <| And.intro conv_5_3 <| And.intro conv_3_104 <| And.intro conv_121_2 <| And.intro beql <| bneq) :=
  And.intro row_29 <| And.intro len_29 <| And.intro idx_29 <| And.intro src_29 <| And.intro agg_29 <| And.intro sz_29 <| And.intro row_44 <| And.intro len_44 <| And.intro idx_44 <| And.intro src_44 <| And.intro agg_44 <| And.intro sz_44 <| And.intro row_53 <| And.intro len_53 <| And.intro idx_53 <| And.intro src_53 <| And.intro agg_53 <| And.intro sz_53 <| And.intro row_22 <| And.intro len_22 <| And.intro idx_22 <| And.intro src_22 <| And.intro agg_22 <| And.intro sz_22 <| And.intro row_32 <| And.intro len_32 <| And.intro idx_32 <| And.intro src_32 <| And.intro agg_32 <| And.intro sz_32 <| And.intro row_100 <| And.intro len_100 <| And.intro idx_100 <| And.intro src_100 <| And.intro agg_100 <| And.intro sz_100 <| And.intro agg_2 <| And.intro sz_2 <| And.intro agg_3 <| And.intro sz_3 <| And.intro agg_4 <| And.intro sz_4 <| And.intro agg_5 <| And.intro sz_5 <| And.intro agg_24 <| And.intro sz_24 <| And.intro agg_39 <| And.intro sz_39 <| And.intro agg_104 <| And.intro sz_104 <| And.intro agg_121 <| And.intro sz_121 <| And.intro struct_26 <| And.intro agg_26 <| And.intro sz_26 <| And.intro zero_26 <| And.intro alloc_26 <| And.intro fa_26_0 <| And.intro fa_26_1 <| And.intro fa_26_2 <| And.intro fa_26_3 <| And.intro fa_26_4 <| And.intro fa_26_5 <| And.intro fa_26_6 <| And.intro fa_26_7 <| And.intro struct_106 <| And.intro agg_106 <| And.intro sz_106 <| And.intro zero_106 <| And.intro alloc_106 <| And.intro fa_106_0 <| And.intro fa_106_1 <| And.intro fa_106_2 <| And.intro struct_124 <| And.intro agg_124 <| And.intro sz_124 <| And.intro zero_124 <| And.intro alloc_124 <| And.intro fa_124_0 <| And.intro fa_124_1 <| And.intro conv_24_39 <| And.intro conv_2_24 <| And.intro conv_3_24 <| And.intro conv_3_133 <| And.intro conv_133_3 <| And.intro conv_39_24 <| And.intro conv_2_39 <| And.intro conv_5_2 <| And.intro conv_104_2 <| And.intro conv_2_5 <| And.intro conv_5_3 <| And.intro conv_3_104 <| And.intro conv_121_2 <| And.intro beql <| bneq

end Go.Proofs.Ytnhhdgopgecggaa.Abs
