/- A text of this claim: walks, or plain law. -/
import Derived.Test.YtodcnfabnlojdaaProg
import Derived.Test.YtodcnfabnlojdaaAMRules
import Derived.KernelRfl
set_option linter.unusedSimpArgs false
set_option linter.unusedVariables false
namespace Go.Proofs.Ytodcnfabnlojdaa
open Go.AM

theorem lk_1 : lkI Try.prog 1 = some none := by kernel_rfl
theorem sz_1 : szI Try.prog 1 = some 1 := by kernel_rfl
theorem al_1 : alI Try.prog 1 = some [.nilFunc] := by kernel_rfl
theorem ul_3 : Try.prog.underlying 3 = some (.int .i64) := by kernel_rfl
theorem lk_3 : lkI Try.prog 3 = some none := by kernel_rfl
theorem sz_3 : szI Try.prog 3 = some 1 := by kernel_rfl
theorem al_3 : alI Try.prog 3 = some [.int .i64 0] := by kernel_rfl
theorem ul_4 : Try.prog.underlying 4 = some (.bool) := by kernel_rfl
theorem lk_4 : lkI Try.prog 4 = some none := by kernel_rfl
theorem sz_4 : szI Try.prog 4 = some 1 := by kernel_rfl
theorem al_4 : alI Try.prog 4 = some [.bool false] := by kernel_rfl
theorem ul_5 : Try.prog.underlying 5 = some (.int .u8) := by kernel_rfl
theorem lk_5 : lkI Try.prog 5 = some none := by kernel_rfl
theorem sz_5 : szI Try.prog 5 = some 1 := by kernel_rfl
theorem al_5 : alI Try.prog 5 = some [.int .u8 0] := by kernel_rfl
theorem ul_9 : Try.prog.underlying 9 = some (.string) := by kernel_rfl
theorem lk_9 : lkI Try.prog 9 = some none := by kernel_rfl
theorem sz_9 : szI Try.prog 9 = some 1 := by kernel_rfl
theorem al_9 : alI Try.prog 9 = some [.string ByteArray.empty] := by kernel_rfl
theorem ul_22 : Try.prog.underlying 22 = some (.slice 3) := by kernel_rfl
theorem lk_22 : lkI Try.prog 22 = some none := by kernel_rfl
theorem sz_22 : szI Try.prog 22 = some 1 := by kernel_rfl
theorem al_22 : alI Try.prog 22 = some [.slice none 0 0] := by kernel_rfl
theorem el_22 : elI Try.prog 22 = some (3, 1) := by kernel_rfl
theorem ap_22 : apI Try.prog 22 = some (3, 1, 8) := by kernel_rfl
theorem bs_22 : bsI Try.prog 22 = some (3, 1) := by kernel_rfl
theorem ul_23 : Try.prog.underlying 23 = some (.int .i64) := by kernel_rfl
theorem lk_23 : lkI Try.prog 23 = some none := by kernel_rfl
theorem sz_23 : szI Try.prog 23 = some 1 := by kernel_rfl
theorem al_23 : alI Try.prog 23 = some [.int .i64 0] := by kernel_rfl
theorem ul_29 : Try.prog.underlying 29 = some (.int .u64) := by kernel_rfl
theorem lk_29 : lkI Try.prog 29 = some none := by kernel_rfl
theorem sz_29 : szI Try.prog 29 = some 1 := by kernel_rfl
theorem al_29 : alI Try.prog 29 = some [.int .u64 0] := by kernel_rfl
theorem ul_30 : Try.prog.underlying 30 = some (.slice 33) := by kernel_rfl
theorem lk_30 : lkI Try.prog 30 = some none := by kernel_rfl
theorem sz_30 : szI Try.prog 30 = some 1 := by kernel_rfl
theorem al_30 : alI Try.prog 30 = some [.slice none 0 0] := by kernel_rfl
theorem el_30 : elI Try.prog 30 = some (33, 3) := by kernel_rfl
theorem ap_30 : apI Try.prog 30 = some (33, 3, 24) := by kernel_rfl
theorem bs_30 : bsI Try.prog 30 = some (33, 3) := by kernel_rfl
theorem lk_33 : lkI Try.prog 33 = some (some 3) := by kernel_rfl
theorem sz_33 : szI Try.prog 33 = some 3 := by kernel_rfl
theorem al_33 : alI Try.prog 33 = some [.int .i64 0, .int .u64 0, .int .i64 0] := by kernel_rfl
theorem bd_33 : bdI Try.prog 33 = some ([.int .i64 0, .int .u64 0, .int .i64 0], [(0, 1), (1, 1), (2, 1)]) := by kernel_rfl
theorem se_33 : seI Try.prog 33 = some [(0, .int .i64), (1, .int .u64), (2, .int .i64)] := by kernel_rfl
theorem fd_33_0 : fdI Try.prog 33 0 = some 0 := by kernel_rfl
theorem fv_33_0 : fvI Try.prog 33 0 = some (0, none) := by kernel_rfl
theorem fd_33_1 : fdI Try.prog 33 1 = some 1 := by kernel_rfl
theorem fv_33_1 : fvI Try.prog 33 1 = some (1, none) := by kernel_rfl
theorem fd_33_2 : fdI Try.prog 33 2 = some 2 := by kernel_rfl
theorem fv_33_2 : fvI Try.prog 33 2 = some (2, none) := by kernel_rfl
theorem ul_40 : Try.prog.underlying 40 = some (.slice 42) := by kernel_rfl
theorem lk_40 : lkI Try.prog 40 = some none := by kernel_rfl
theorem sz_40 : szI Try.prog 40 = some 1 := by kernel_rfl
theorem al_40 : alI Try.prog 40 = some [.slice none 0 0] := by kernel_rfl
theorem el_40 : elI Try.prog 40 = some (42, 3) := by kernel_rfl
theorem ap_40 : apI Try.prog 40 = some (42, 3, 24) := by kernel_rfl
theorem bs_40 : bsI Try.prog 40 = some (42, 3) := by kernel_rfl
theorem lk_42 : lkI Try.prog 42 = some (some 3) := by kernel_rfl
theorem sz_42 : szI Try.prog 42 = some 3 := by kernel_rfl
theorem al_42 : alI Try.prog 42 = some [.int .i64 0, .int .i64 0, .int .i64 0] := by kernel_rfl
theorem bd_42 : bdI Try.prog 42 = some ([.int .i64 0, .int .i64 0, .int .i64 0], [(0, 1), (1, 1), (2, 1)]) := by kernel_rfl
theorem se_42 : seI Try.prog 42 = some [(0, .int .i64), (1, .int .i64), (2, .int .i64)] := by kernel_rfl
theorem fd_42_0 : fdI Try.prog 42 0 = some 0 := by kernel_rfl
theorem fv_42_0 : fvI Try.prog 42 0 = some (0, none) := by kernel_rfl
theorem fd_42_1 : fdI Try.prog 42 1 = some 1 := by kernel_rfl
theorem fv_42_1 : fvI Try.prog 42 1 = some (1, none) := by kernel_rfl
theorem fd_42_2 : fdI Try.prog 42 2 = some 2 := by kernel_rfl
theorem fv_42_2 : fvI Try.prog 42 2 = some (2, none) := by kernel_rfl
theorem ul_43 : Try.prog.underlying 43 = some (.map 3 3) := by kernel_rfl
theorem lk_43 : lkI Try.prog 43 = some none := by kernel_rfl
theorem sz_43 : szI Try.prog 43 = some 1 := by kernel_rfl
theorem al_43 : alI Try.prog 43 = some [.map none] := by kernel_rfl
theorem lk_45 : lkI Try.prog 45 = some (some 2) := by kernel_rfl
theorem sz_45 : szI Try.prog 45 = some 2 := by kernel_rfl
theorem al_45 : alI Try.prog 45 = some [.int .i64 0, .map none] := by kernel_rfl
theorem bd_45 : bdI Try.prog 45 = some ([.int .i64 0, .map none], [(0, 1), (1, 1)]) := by kernel_rfl
theorem fd_45_0 : fdI Try.prog 45 0 = some 0 := by kernel_rfl
theorem fv_45_0 : fvI Try.prog 45 0 = some (0, none) := by kernel_rfl
theorem fd_45_1 : fdI Try.prog 45 1 = some 1 := by kernel_rfl
theorem fv_45_1 : fvI Try.prog 45 1 = some (1, none) := by kernel_rfl
theorem lk_50 : lkI Try.prog 50 = some none := by kernel_rfl
theorem sz_50 : szI Try.prog 50 = some 1 := by kernel_rfl
theorem al_50 : alI Try.prog 50 = some [.nilFunc] := by kernel_rfl
theorem ul_54 : Try.prog.underlying 54 = some (.slice 64) := by kernel_rfl
theorem lk_54 : lkI Try.prog 54 = some none := by kernel_rfl
theorem sz_54 : szI Try.prog 54 = some 1 := by kernel_rfl
theorem al_54 : alI Try.prog 54 = some [.slice none 0 0] := by kernel_rfl
theorem el_54 : elI Try.prog 54 = some (64, 4) := by kernel_rfl
theorem ap_54 : apI Try.prog 54 = some (64, 4, 32) := by kernel_rfl
theorem bs_54 : bsI Try.prog 54 = some (64, 4) := by kernel_rfl
theorem ul_55 : Try.prog.underlying 55 = some (.pointer 58) := by kernel_rfl
theorem lk_55 : lkI Try.prog 55 = some none := by kernel_rfl
theorem sz_55 : szI Try.prog 55 = some 1 := by kernel_rfl
theorem al_55 : alI Try.prog 55 = some [.pointer none] := by kernel_rfl
theorem ul_56 : Try.prog.underlying 56 = some (.map 3 29) := by kernel_rfl
theorem lk_56 : lkI Try.prog 56 = some none := by kernel_rfl
theorem sz_56 : szI Try.prog 56 = some 1 := by kernel_rfl
theorem al_56 : alI Try.prog 56 = some [.map none] := by kernel_rfl
theorem lk_58 : lkI Try.prog 58 = some (some 1) := by kernel_rfl
theorem sz_58 : szI Try.prog 58 = some 1 := by kernel_rfl
theorem al_58 : alI Try.prog 58 = some [.map none] := by kernel_rfl
theorem bd_58 : bdI Try.prog 58 = some ([.map none], [(0, 1)]) := by kernel_rfl
theorem fd_58_0 : fdI Try.prog 58 0 = some 0 := by kernel_rfl
theorem fv_58_0 : fvI Try.prog 58 0 = some (0, none) := by kernel_rfl
theorem ul_59 : Try.prog.underlying 59 = some (.pointer 62) := by kernel_rfl
theorem lk_59 : lkI Try.prog 59 = some none := by kernel_rfl
theorem sz_59 : szI Try.prog 59 = some 1 := by kernel_rfl
theorem al_59 : alI Try.prog 59 = some [.pointer none] := by kernel_rfl
theorem ul_60 : Try.prog.underlying 60 = some (.slice 102) := by kernel_rfl
theorem lk_60 : lkI Try.prog 60 = some none := by kernel_rfl
theorem sz_60 : szI Try.prog 60 = some 1 := by kernel_rfl
theorem al_60 : alI Try.prog 60 = some [.slice none 0 0] := by kernel_rfl
theorem el_60 : elI Try.prog 60 = some (102, 2) := by kernel_rfl
theorem ap_60 : apI Try.prog 60 = some (102, 2, 16) := by kernel_rfl
theorem bs_60 : bsI Try.prog 60 = some (102, 2) := by kernel_rfl
theorem lk_62 : lkI Try.prog 62 = some (some 1) := by kernel_rfl
theorem sz_62 : szI Try.prog 62 = some 1 := by kernel_rfl
theorem al_62 : alI Try.prog 62 = some [.slice none 0 0] := by kernel_rfl
theorem bd_62 : bdI Try.prog 62 = some ([.slice none 0 0], [(0, 1)]) := by kernel_rfl
theorem fd_62_0 : fdI Try.prog 62 0 = some 0 := by kernel_rfl
theorem fv_62_0 : fvI Try.prog 62 0 = some (0, none) := by kernel_rfl
theorem lk_64 : lkI Try.prog 64 = some (some 4) := by kernel_rfl
theorem sz_64 : szI Try.prog 64 = some 4 := by kernel_rfl
theorem al_64 : alI Try.prog 64 = some [.int .i64 0, .int .u64 0, .int .i64 0, .int .u64 0] := by kernel_rfl
theorem bd_64 : bdI Try.prog 64 = some ([.int .i64 0, .int .u64 0, .int .i64 0, .int .u64 0], [(0, 1), (1, 1), (2, 1), (3, 1)]) := by kernel_rfl
theorem se_64 : seI Try.prog 64 = some [(0, .int .i64), (1, .int .u64), (2, .int .i64), (3, .int .u64)] := by kernel_rfl
theorem fd_64_0 : fdI Try.prog 64 0 = some 0 := by kernel_rfl
theorem fv_64_0 : fvI Try.prog 64 0 = some (0, none) := by kernel_rfl
theorem fd_64_1 : fdI Try.prog 64 1 = some 1 := by kernel_rfl
theorem fv_64_1 : fvI Try.prog 64 1 = some (1, none) := by kernel_rfl
theorem fd_64_2 : fdI Try.prog 64 2 = some 2 := by kernel_rfl
theorem fv_64_2 : fvI Try.prog 64 2 = some (2, none) := by kernel_rfl
theorem fd_64_3 : fdI Try.prog 64 3 = some 3 := by kernel_rfl
theorem fv_64_3 : fvI Try.prog 64 3 = some (3, none) := by kernel_rfl
theorem ul_72 : Try.prog.underlying 72 = some (.pointer 45) := by kernel_rfl
theorem lk_72 : lkI Try.prog 72 = some none := by kernel_rfl
theorem sz_72 : szI Try.prog 72 = some 1 := by kernel_rfl
theorem al_72 : alI Try.prog 72 = some [.pointer none] := by kernel_rfl
theorem ul_73 : Try.prog.underlying 73 = some (.pointer 80) := by kernel_rfl
theorem lk_73 : lkI Try.prog 73 = some none := by kernel_rfl
theorem sz_73 : szI Try.prog 73 = some 1 := by kernel_rfl
theorem al_73 : alI Try.prog 73 = some [.pointer none] := by kernel_rfl
theorem ul_78 : Try.prog.underlying 78 = some (.array 64 3) := by kernel_rfl
theorem lk_78 : lkI Try.prog 78 = some (some 64) := by kernel_rfl
theorem sz_78 : szI Try.prog 78 = some 64 := by kernel_rfl
theorem al_78 : alI Try.prog 78 = some [.int .i64 0, .int .i64 0, .int .i64 0, .int .i64 0, .int .i64 0, .int .i64 0, .int .i64 0, .int .i64 0, .int .i64 0, .int .i64 0, .int .i64 0, .int .i64 0, .int .i64 0, .int .i64 0, .int .i64 0, .int .i64 0, .int .i64 0, .int .i64 0, .int .i64 0, .int .i64 0, .int .i64 0, .int .i64 0, .int .i64 0, .int .i64 0, .int .i64 0, .int .i64 0, .int .i64 0, .int .i64 0, .int .i64 0, .int .i64 0, .int .i64 0, .int .i64 0, .int .i64 0, .int .i64 0, .int .i64 0, .int .i64 0, .int .i64 0, .int .i64 0, .int .i64 0, .int .i64 0, .int .i64 0, .int .i64 0, .int .i64 0, .int .i64 0, .int .i64 0, .int .i64 0, .int .i64 0, .int .i64 0, .int .i64 0, .int .i64 0, .int .i64 0, .int .i64 0, .int .i64 0, .int .i64 0, .int .i64 0, .int .i64 0, .int .i64 0, .int .i64 0, .int .i64 0, .int .i64 0, .int .i64 0, .int .i64 0, .int .i64 0, .int .i64 0] := by kernel_rfl
theorem ar_78 : arI Try.prog 78 = some (64, 1) := by kernel_rfl
theorem bd_78 : bdI Try.prog 78 = some ([.int .i64 0, .int .i64 0, .int .i64 0, .int .i64 0, .int .i64 0, .int .i64 0, .int .i64 0, .int .i64 0, .int .i64 0, .int .i64 0, .int .i64 0, .int .i64 0, .int .i64 0, .int .i64 0, .int .i64 0, .int .i64 0, .int .i64 0, .int .i64 0, .int .i64 0, .int .i64 0, .int .i64 0, .int .i64 0, .int .i64 0, .int .i64 0, .int .i64 0, .int .i64 0, .int .i64 0, .int .i64 0, .int .i64 0, .int .i64 0, .int .i64 0, .int .i64 0, .int .i64 0, .int .i64 0, .int .i64 0, .int .i64 0, .int .i64 0, .int .i64 0, .int .i64 0, .int .i64 0, .int .i64 0, .int .i64 0, .int .i64 0, .int .i64 0, .int .i64 0, .int .i64 0, .int .i64 0, .int .i64 0, .int .i64 0, .int .i64 0, .int .i64 0, .int .i64 0, .int .i64 0, .int .i64 0, .int .i64 0, .int .i64 0, .int .i64 0, .int .i64 0, .int .i64 0, .int .i64 0, .int .i64 0, .int .i64 0, .int .i64 0, .int .i64 0], [(0, 1), (1, 1), (2, 1), (3, 1), (4, 1), (5, 1), (6, 1), (7, 1), (8, 1), (9, 1), (10, 1), (11, 1), (12, 1), (13, 1), (14, 1), (15, 1), (16, 1), (17, 1), (18, 1), (19, 1), (20, 1), (21, 1), (22, 1), (23, 1), (24, 1), (25, 1), (26, 1), (27, 1), (28, 1), (29, 1), (30, 1), (31, 1), (32, 1), (33, 1), (34, 1), (35, 1), (36, 1), (37, 1), (38, 1), (39, 1), (40, 1), (41, 1), (42, 1), (43, 1), (44, 1), (45, 1), (46, 1), (47, 1), (48, 1), (49, 1), (50, 1), (51, 1), (52, 1), (53, 1), (54, 1), (55, 1), (56, 1), (57, 1), (58, 1), (59, 1), (60, 1), (61, 1), (62, 1), (63, 1)]) := by kernel_rfl
theorem lk_80 : lkI Try.prog 80 = some (some 65) := by kernel_rfl
theorem sz_80 : szI Try.prog 80 = some 65 := by kernel_rfl
theorem fd_80_0 : fdI Try.prog 80 0 = some 0 := by kernel_rfl
theorem fv_80_0 : fvI Try.prog 80 0 = some (0, none) := by kernel_rfl
theorem fd_80_1 : fdI Try.prog 80 1 = some 1 := by kernel_rfl
theorem fv_80_1 : fvI Try.prog 80 1 = some (1, some 64) := by kernel_rfl
theorem lk_86 : lkI Try.prog 86 = some none := by kernel_rfl
theorem sz_86 : szI Try.prog 86 = some 1 := by kernel_rfl
theorem al_86 : alI Try.prog 86 = some [.nilFunc] := by kernel_rfl
theorem lk_93 : lkI Try.prog 93 = some none := by kernel_rfl
theorem sz_93 : szI Try.prog 93 = some 1 := by kernel_rfl
theorem al_93 : alI Try.prog 93 = some [.nilFunc] := by kernel_rfl
theorem lk_99 : lkI Try.prog 99 = some none := by kernel_rfl
theorem sz_99 : szI Try.prog 99 = some 1 := by kernel_rfl
theorem al_99 : alI Try.prog 99 = some [.nilFunc] := by kernel_rfl
theorem lk_102 : lkI Try.prog 102 = some (some 2) := by kernel_rfl
theorem sz_102 : szI Try.prog 102 = some 2 := by kernel_rfl
theorem al_102 : alI Try.prog 102 = some [.int .i64 0, .int .u64 0] := by kernel_rfl
theorem bd_102 : bdI Try.prog 102 = some ([.int .i64 0, .int .u64 0], [(0, 1), (1, 1)]) := by kernel_rfl
theorem se_102 : seI Try.prog 102 = some [(0, .int .i64), (1, .int .u64)] := by kernel_rfl
theorem fd_102_0 : fdI Try.prog 102 0 = some 0 := by kernel_rfl
theorem fv_102_0 : fvI Try.prog 102 0 = some (0, none) := by kernel_rfl
theorem fd_102_1 : fdI Try.prog 102 1 = some 1 := by kernel_rfl
theorem fv_102_1 : fvI Try.prog 102 1 = some (1, none) := by kernel_rfl
theorem ul_111 : Try.prog.underlying 111 = some (.int .u64) := by kernel_rfl
theorem lk_111 : lkI Try.prog 111 = some none := by kernel_rfl
theorem sz_111 : szI Try.prog 111 = some 1 := by kernel_rfl
theorem al_111 : alI Try.prog 111 = some [.int .u64 0] := by kernel_rfl
theorem ul_114 : Try.prog.underlying 114 = some (.int .i64) := by kernel_rfl
theorem lk_114 : lkI Try.prog 114 = some none := by kernel_rfl
theorem sz_114 : szI Try.prog 114 = some 1 := by kernel_rfl
theorem al_114 : alI Try.prog 114 = some [.int .i64 0] := by kernel_rfl
theorem ul_122 : Try.prog.underlying 122 = some (.int .u32) := by kernel_rfl
theorem lk_122 : lkI Try.prog 122 = some none := by kernel_rfl
theorem sz_122 : szI Try.prog 122 = some 1 := by kernel_rfl
theorem al_122 : alI Try.prog 122 = some [.int .u32 0] := by kernel_rfl
theorem ul_124 : Try.prog.underlying 124 = some (.int .u64) := by kernel_rfl
theorem lk_124 : lkI Try.prog 124 = some none := by kernel_rfl
theorem sz_124 : szI Try.prog 124 = some 1 := by kernel_rfl
theorem al_124 : alI Try.prog 124 = some [.int .u64 0] := by kernel_rfl
theorem ul_128 : Try.prog.underlying 128 = some (.pointer 3) := by kernel_rfl
theorem lk_128 : lkI Try.prog 128 = some none := by kernel_rfl
theorem sz_128 : szI Try.prog 128 = some 1 := by kernel_rfl
theorem al_128 : alI Try.prog 128 = some [.pointer none] := by kernel_rfl

end Go.Proofs.Ytodcnfabnlojdaa
