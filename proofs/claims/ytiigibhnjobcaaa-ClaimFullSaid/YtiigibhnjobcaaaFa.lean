/- A text of this claim: walks, or plain law. -/
import Derived.Test.YtiigibhnjobcaaaProg
import Derived.Test.YtiigibhnjobcaaaAMRules
import Derived.Test.YtiigibhnjobcaaaAMOps4
import Derived.KernelRfl
set_option linter.unusedSimpArgs false
set_option linter.unusedVariables false
namespace Go.Proofs.Ytiigibhnjobcaaa
open Go.AM

theorem ul_3 : Try.prog.underlying 3 = some (.int .i64) := by kernel_rfl
theorem lk_3 : lkI Try.prog 3 = some none := by kernel_rfl
theorem sz_3 : szI Try.prog 3 = some 1 := by kernel_rfl
theorem al_3 : alI Try.prog 3 = some ([.int .i64 0]) := by kernel_rfl
theorem ul_4 : Try.prog.underlying 4 = some (.bool) := by kernel_rfl
theorem lk_4 : lkI Try.prog 4 = some none := by kernel_rfl
theorem sz_4 : szI Try.prog 4 = some 1 := by kernel_rfl
theorem al_4 : alI Try.prog 4 = some ([.bool false]) := by kernel_rfl
theorem ul_5 : Try.prog.underlying 5 = some (.int .u8) := by kernel_rfl
theorem lk_5 : lkI Try.prog 5 = some none := by kernel_rfl
theorem sz_5 : szI Try.prog 5 = some 1 := by kernel_rfl
theorem al_5 : alI Try.prog 5 = some ([.int .u8 0]) := by kernel_rfl
theorem ul_9 : Try.prog.underlying 9 = some (.string) := by kernel_rfl
theorem lk_9 : lkI Try.prog 9 = some none := by kernel_rfl
theorem sz_9 : szI Try.prog 9 = some 1 := by kernel_rfl
theorem al_9 : alI Try.prog 9 = some ([.string ByteArray.empty]) := by kernel_rfl
theorem ul_22 : Try.prog.underlying 22 = some (.slice 53) := by kernel_rfl
theorem lk_22 : lkI Try.prog 22 = some none := by kernel_rfl
theorem sz_22 : szI Try.prog 22 = some 1 := by kernel_rfl
theorem al_22 : alI Try.prog 22 = some ([.slice none 0 0]) := by kernel_rfl
theorem el_22 : elI Try.prog 22 = some (53, 3) := by kernel_rfl
theorem ap_22 : apI Try.prog 22 = some (53, 3, 40) := by kernel_rfl
theorem bs_22 : bsI Try.prog 22 = some (53, 3) := by kernel_rfl
theorem ul_23 : Try.prog.underlying 23 = some (.pointer 37) := by kernel_rfl
theorem lk_23 : lkI Try.prog 23 = some none := by kernel_rfl
theorem sz_23 : szI Try.prog 23 = some 1 := by kernel_rfl
theorem al_23 : alI Try.prog 23 = some ([.pointer none]) := by kernel_rfl
theorem ul_24 : Try.prog.underlying 24 = some (.int .i64) := by kernel_rfl
theorem lk_24 : lkI Try.prog 24 = some none := by kernel_rfl
theorem sz_24 : szI Try.prog 24 = some 1 := by kernel_rfl
theorem al_24 : alI Try.prog 24 = some ([.int .i64 0]) := by kernel_rfl
theorem ul_27 : Try.prog.underlying 27 = some (.pointer 58) := by kernel_rfl
theorem lk_27 : lkI Try.prog 27 = some none := by kernel_rfl
theorem sz_27 : szI Try.prog 27 = some 1 := by kernel_rfl
theorem al_27 : alI Try.prog 27 = some ([.pointer none]) := by kernel_rfl
theorem ul_31 : Try.prog.underlying 31 = some (.slice 45) := by kernel_rfl
theorem lk_31 : lkI Try.prog 31 = some none := by kernel_rfl
theorem sz_31 : szI Try.prog 31 = some 1 := by kernel_rfl
theorem al_31 : alI Try.prog 31 = some ([.slice none 0 0]) := by kernel_rfl
theorem el_31 : elI Try.prog 31 = some (45, 2) := by kernel_rfl
theorem ap_31 : apI Try.prog 31 = some (45, 2, 16) := by kernel_rfl
theorem bs_31 : bsI Try.prog 31 = some (45, 2) := by kernel_rfl
theorem ul_34 : Try.prog.underlying 34 = some (.slice 42) := by kernel_rfl
theorem lk_34 : lkI Try.prog 34 = some none := by kernel_rfl
theorem sz_34 : szI Try.prog 34 = some 1 := by kernel_rfl
theorem al_34 : alI Try.prog 34 = some ([.slice none 0 0]) := by kernel_rfl
theorem el_34 : elI Try.prog 34 = some (42, 4) := by kernel_rfl
theorem ap_34 : apI Try.prog 34 = some (42, 4, 32) := by kernel_rfl
theorem bs_34 : bsI Try.prog 34 = some (42, 4) := by kernel_rfl
theorem lk_37 : lkI Try.prog 37 = some (some 1) := by kernel_rfl
theorem sz_37 : szI Try.prog 37 = some 1 := by kernel_rfl
theorem al_37 : alI Try.prog 37 = some ([.slice none 0 0]) := by kernel_rfl
theorem bd_37 : bdI Try.prog 37 = some ([.slice none 0 0], [(0, 1)]) := by kernel_rfl
theorem fd_37_0 : fdI Try.prog 37 0 = some 0 := by kernel_rfl
theorem fv_37_0 : fvI Try.prog 37 0 = some (0, none) := by kernel_rfl
theorem ul_38 : Try.prog.underlying 38 = some (.int .u32) := by kernel_rfl
theorem lk_38 : lkI Try.prog 38 = some none := by kernel_rfl
theorem sz_38 : szI Try.prog 38 = some 1 := by kernel_rfl
theorem al_38 : alI Try.prog 38 = some ([.int .u32 0]) := by kernel_rfl
theorem lk_42 : lkI Try.prog 42 = some (some 4) := by kernel_rfl
theorem sz_42 : szI Try.prog 42 = some 4 := by kernel_rfl
theorem al_42 : alI Try.prog 42 = some ([.int .i64 0, .int .i64 0, .int .u32 0, .int .i64 0]) := by kernel_rfl
theorem bd_42 : bdI Try.prog 42 = some ([.int .i64 0, .int .i64 0, .int .u32 0, .int .i64 0], [(0, 1), (1, 1), (2, 1), (3, 1)]) := by kernel_rfl
theorem se_42 : seI Try.prog 42 = some [(0, .int .i64), (1, .int .i64), (2, .int .u32), (3, .int .i64)] := by kernel_rfl
theorem fd_42_0 : fdI Try.prog 42 0 = some 0 := by kernel_rfl
theorem fv_42_0 : fvI Try.prog 42 0 = some (0, none) := by kernel_rfl
theorem fd_42_1 : fdI Try.prog 42 1 = some 1 := by kernel_rfl
theorem fv_42_1 : fvI Try.prog 42 1 = some (1, none) := by kernel_rfl
theorem fd_42_2 : fdI Try.prog 42 2 = some 2 := by kernel_rfl
theorem fv_42_2 : fvI Try.prog 42 2 = some (2, none) := by kernel_rfl
theorem fd_42_3 : fdI Try.prog 42 3 = some 3 := by kernel_rfl
theorem fv_42_3 : fvI Try.prog 42 3 = some (3, none) := by kernel_rfl
theorem lk_45 : lkI Try.prog 45 = some (some 2) := by kernel_rfl
theorem sz_45 : szI Try.prog 45 = some 2 := by kernel_rfl
theorem al_45 : alI Try.prog 45 = some ([.int .i64 0, .int .u32 0]) := by kernel_rfl
theorem bd_45 : bdI Try.prog 45 = some ([.int .i64 0, .int .u32 0], [(0, 1), (1, 1)]) := by kernel_rfl
theorem se_45 : seI Try.prog 45 = some [(0, .int .i64), (1, .int .u32)] := by kernel_rfl
theorem fd_45_0 : fdI Try.prog 45 0 = some 0 := by kernel_rfl
theorem fv_45_0 : fvI Try.prog 45 0 = some (0, none) := by kernel_rfl
theorem fd_45_1 : fdI Try.prog 45 1 = some 1 := by kernel_rfl
theorem fv_45_1 : fvI Try.prog 45 1 = some (1, none) := by kernel_rfl
theorem ul_49 : Try.prog.underlying 49 = some (.map 3 3) := by kernel_rfl
theorem lk_49 : lkI Try.prog 49 = some none := by kernel_rfl
theorem sz_49 : szI Try.prog 49 = some 1 := by kernel_rfl
theorem al_49 : alI Try.prog 49 = some ([.map none]) := by kernel_rfl
theorem mp_49 : mpI Try.prog 49 = some (.int .i64 0) := by kernel_rfl
theorem ul_50 : Try.prog.underlying 50 = some (.slice 3) := by kernel_rfl
theorem lk_50 : lkI Try.prog 50 = some none := by kernel_rfl
theorem sz_50 : szI Try.prog 50 = some 1 := by kernel_rfl
theorem al_50 : alI Try.prog 50 = some ([.slice none 0 0]) := by kernel_rfl
theorem el_50 : elI Try.prog 50 = some (3, 1) := by kernel_rfl
theorem ap_50 : apI Try.prog 50 = some (3, 1, 8) := by kernel_rfl
theorem bs_50 : bsI Try.prog 50 = some (3, 1) := by kernel_rfl
theorem ul_51 : Try.prog.underlying 51 = some (.slice 5) := by kernel_rfl
theorem lk_51 : lkI Try.prog 51 = some none := by kernel_rfl
theorem sz_51 : szI Try.prog 51 = some 1 := by kernel_rfl
theorem al_51 : alI Try.prog 51 = some ([.slice none 0 0]) := by kernel_rfl
theorem el_51 : elI Try.prog 51 = some (5, 1) := by kernel_rfl
theorem ap_51 : apI Try.prog 51 = some (5, 1, 1) := by kernel_rfl
theorem bs_51 : bsI Try.prog 51 = some (5, 1) := by kernel_rfl
theorem lk_53 : lkI Try.prog 53 = some (some 3) := by kernel_rfl
theorem sz_53 : szI Try.prog 53 = some 3 := by kernel_rfl
theorem al_53 : alI Try.prog 53 = some ([.int .i64 0, .int .i64 0, .slice none 0 0]) := by kernel_rfl
theorem bd_53 : bdI Try.prog 53 = some ([.int .i64 0, .int .i64 0, .slice none 0 0], [(0, 1), (1, 1), (2, 1)]) := by kernel_rfl
theorem fd_53_0 : fdI Try.prog 53 0 = some 0 := by kernel_rfl
theorem fv_53_0 : fvI Try.prog 53 0 = some (0, none) := by kernel_rfl
theorem fd_53_1 : fdI Try.prog 53 1 = some 1 := by kernel_rfl
theorem fv_53_1 : fvI Try.prog 53 1 = some (1, none) := by kernel_rfl
theorem fd_53_2 : fdI Try.prog 53 2 = some 2 := by kernel_rfl
theorem fv_53_2 : fvI Try.prog 53 2 = some (2, none) := by kernel_rfl
theorem ul_55 : Try.prog.underlying 55 = some (.array 1024 4) := by kernel_rfl
theorem lk_55 : lkI Try.prog 55 = some (some 1024) := by kernel_rfl
theorem sz_55 : szI Try.prog 55 = some 1024 := by kernel_rfl
theorem al_55 : alI Try.prog 55 = some (List.replicate 1024 (.bool false)) := by kernel_rfl
theorem ar_55 : arI Try.prog 55 = some (1024, 1) := by kernel_rfl
theorem ul_56 : Try.prog.underlying 56 = some (.array 1024 38) := by kernel_rfl
theorem lk_56 : lkI Try.prog 56 = some (some 1024) := by kernel_rfl
theorem sz_56 : szI Try.prog 56 = some 1024 := by kernel_rfl
theorem al_56 : alI Try.prog 56 = some (List.replicate 1024 (.int .u32 0)) := by kernel_rfl
theorem ar_56 : arI Try.prog 56 = some (1024, 1) := by kernel_rfl
theorem lk_58 : lkI Try.prog 58 = some (some 2048) := by kernel_rfl
theorem sz_58 : szI Try.prog 58 = some 2048 := by kernel_rfl
theorem al_58 : alI Try.prog 58 = some (List.replicate 1024 (.bool false) ++ List.replicate 1024 (.int .u32 0)) := by kernel_rfl
theorem bd_58 : bdI Try.prog 58 = some (List.replicate 1024 (.bool false) ++ List.replicate 1024 (.int .u32 0), [(0, 1024), (1024, 1024)]) := by kernel_rfl
theorem fd_58_0 : fdI Try.prog 58 0 = some 0 := by kernel_rfl
theorem fv_58_0 : fvI Try.prog 58 0 = some (0, some 1024) := by kernel_rfl
theorem fd_58_1 : fdI Try.prog 58 1 = some 1024 := by kernel_rfl
theorem fv_58_1 : fvI Try.prog 58 1 = some (1024, some 1024) := by kernel_rfl
theorem ul_61 : Try.prog.underlying 61 = some (.slice 78) := by kernel_rfl
theorem lk_61 : lkI Try.prog 61 = some none := by kernel_rfl
theorem sz_61 : szI Try.prog 61 = some 1 := by kernel_rfl
theorem al_61 : alI Try.prog 61 = some ([.slice none 0 0]) := by kernel_rfl
theorem el_61 : elI Try.prog 61 = some (78, 2) := by kernel_rfl
theorem ap_61 : apI Try.prog 61 = some (78, 2, 16) := by kernel_rfl
theorem bs_61 : bsI Try.prog 61 = some (78, 2) := by kernel_rfl
theorem ul_62 : Try.prog.underlying 62 = some (.pointer 99) := by kernel_rfl
theorem lk_62 : lkI Try.prog 62 = some none := by kernel_rfl
theorem sz_62 : szI Try.prog 62 = some 1 := by kernel_rfl
theorem al_62 : alI Try.prog 62 = some ([.pointer none]) := by kernel_rfl
theorem lk_64 : lkI Try.prog 64 = some none := by kernel_rfl
theorem sz_64 : szI Try.prog 64 = some 1 := by kernel_rfl
theorem al_64 : alI Try.prog 64 = some [.nilFunc] := by kernel_rfl
theorem ul_68 : Try.prog.underlying 68 = some (.array 2 5) := by kernel_rfl
theorem lk_68 : lkI Try.prog 68 = some (some 2) := by kernel_rfl
theorem sz_68 : szI Try.prog 68 = some 2 := by kernel_rfl
theorem al_68 : alI Try.prog 68 = some ([.int .u8 0, .int .u8 0]) := by kernel_rfl
theorem ar_68 : arI Try.prog 68 = some (2, 1) := by kernel_rfl
theorem bd_68 : bdI Try.prog 68 = some ([.int .u8 0, .int .u8 0], [(0, 1), (1, 1)]) := by kernel_rfl
theorem ul_75 : Try.prog.underlying 75 = some (.pointer 109) := by kernel_rfl
theorem lk_75 : lkI Try.prog 75 = some none := by kernel_rfl
theorem sz_75 : szI Try.prog 75 = some 1 := by kernel_rfl
theorem al_75 : alI Try.prog 75 = some ([.pointer none]) := by kernel_rfl
theorem ul_78 : Try.prog.underlying 78 = some (.array 2 3) := by kernel_rfl
theorem lk_78 : lkI Try.prog 78 = some (some 2) := by kernel_rfl
theorem sz_78 : szI Try.prog 78 = some 2 := by kernel_rfl
theorem al_78 : alI Try.prog 78 = some ([.int .i64 0, .int .i64 0]) := by kernel_rfl
theorem ar_78 : arI Try.prog 78 = some (2, 1) := by kernel_rfl
theorem bd_78 : bdI Try.prog 78 = some ([.int .i64 0, .int .i64 0], [(0, 1), (1, 1)]) := by kernel_rfl
theorem ul_83 : Try.prog.underlying 83 = some (.array 3 5) := by kernel_rfl
theorem lk_83 : lkI Try.prog 83 = some (some 3) := by kernel_rfl
theorem sz_83 : szI Try.prog 83 = some 3 := by kernel_rfl
theorem al_83 : alI Try.prog 83 = some ([.int .u8 0, .int .u8 0, .int .u8 0]) := by kernel_rfl
theorem ar_83 : arI Try.prog 83 = some (3, 1) := by kernel_rfl
theorem bd_83 : bdI Try.prog 83 = some ([.int .u8 0, .int .u8 0, .int .u8 0], [(0, 1), (1, 1), (2, 1)]) := by kernel_rfl
theorem lk_85 : lkI Try.prog 85 = some none := by kernel_rfl
theorem sz_85 : szI Try.prog 85 = some 1 := by kernel_rfl
theorem al_85 : alI Try.prog 85 = some [.nilFunc] := by kernel_rfl
theorem ul_86 : Try.prog.underlying 86 = some (.int .u64) := by kernel_rfl
theorem lk_86 : lkI Try.prog 86 = some none := by kernel_rfl
theorem sz_86 : szI Try.prog 86 = some 1 := by kernel_rfl
theorem al_86 : alI Try.prog 86 = some ([.int .u64 0]) := by kernel_rfl
theorem ul_97 : Try.prog.underlying 97 = some (.slice 50) := by kernel_rfl
theorem lk_97 : lkI Try.prog 97 = some none := by kernel_rfl
theorem sz_97 : szI Try.prog 97 = some 1 := by kernel_rfl
theorem al_97 : alI Try.prog 97 = some ([.slice none 0 0]) := by kernel_rfl
theorem el_97 : elI Try.prog 97 = some (50, 1) := by kernel_rfl
theorem ap_97 : apI Try.prog 97 = some (50, 1, 24) := by kernel_rfl
theorem bs_97 : bsI Try.prog 97 = some (50, 1) := by kernel_rfl
theorem lk_99 : lkI Try.prog 99 = some (some 2) := by kernel_rfl
theorem sz_99 : szI Try.prog 99 = some 2 := by kernel_rfl
theorem al_99 : alI Try.prog 99 = some ([.slice none 0 0, .slice none 0 0]) := by kernel_rfl
theorem bd_99 : bdI Try.prog 99 = some ([.slice none 0 0, .slice none 0 0], [(0, 1), (1, 1)]) := by kernel_rfl
theorem fd_99_0 : fdI Try.prog 99 0 = some 0 := by kernel_rfl
theorem fv_99_0 : fvI Try.prog 99 0 = some (0, none) := by kernel_rfl
theorem fd_99_1 : fdI Try.prog 99 1 = some 1 := by kernel_rfl
theorem fv_99_1 : fvI Try.prog 99 1 = some (1, none) := by kernel_rfl
theorem ul_107 : Try.prog.underlying 107 = some (.slice 110) := by kernel_rfl
theorem lk_107 : lkI Try.prog 107 = some none := by kernel_rfl
theorem sz_107 : szI Try.prog 107 = some 1 := by kernel_rfl
theorem al_107 : alI Try.prog 107 = some ([.slice none 0 0]) := by kernel_rfl
theorem el_107 : elI Try.prog 107 = some (110, 1) := by kernel_rfl
theorem ap_107 : apI Try.prog 107 = some (110, 1, 24) := by kernel_rfl
theorem bs_107 : bsI Try.prog 107 = some (110, 1) := by kernel_rfl
theorem lk_109 : lkI Try.prog 109 = some (some 1) := by kernel_rfl
theorem sz_109 : szI Try.prog 109 = some 1 := by kernel_rfl
theorem al_109 : alI Try.prog 109 = some ([.slice none 0 0]) := by kernel_rfl
theorem bd_109 : bdI Try.prog 109 = some ([.slice none 0 0], [(0, 1)]) := by kernel_rfl
theorem fd_109_0 : fdI Try.prog 109 0 = some 0 := by kernel_rfl
theorem fv_109_0 : fvI Try.prog 109 0 = some (0, none) := by kernel_rfl
theorem ul_110 : Try.prog.underlying 110 = some (.slice 4) := by kernel_rfl
theorem lk_110 : lkI Try.prog 110 = some none := by kernel_rfl
theorem sz_110 : szI Try.prog 110 = some 1 := by kernel_rfl
theorem al_110 : alI Try.prog 110 = some ([.slice none 0 0]) := by kernel_rfl
theorem el_110 : elI Try.prog 110 = some (4, 1) := by kernel_rfl
theorem ap_110 : apI Try.prog 110 = some (4, 1, 1) := by kernel_rfl
theorem bs_110 : bsI Try.prog 110 = some (4, 1) := by kernel_rfl
theorem lk_112 : lkI Try.prog 112 = some none := by kernel_rfl
theorem sz_112 : szI Try.prog 112 = some 1 := by kernel_rfl
theorem al_112 : alI Try.prog 112 = some [.nilFunc] := by kernel_rfl
theorem ul_124 : Try.prog.underlying 124 = some (.int .u64) := by kernel_rfl
theorem lk_124 : lkI Try.prog 124 = some none := by kernel_rfl
theorem sz_124 : szI Try.prog 124 = some 1 := by kernel_rfl
theorem al_124 : alI Try.prog 124 = some ([.int .u64 0]) := by kernel_rfl

end Go.Proofs.Ytiigibhnjobcaaa
