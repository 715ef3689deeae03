/- Walks of this claim's functions, and plain laws. -/
import Derived.Test.YtiigibhnjobcaaaProg
import Derived.Test.YtiigibhnjobcaaaAMRules
import Derived.Test.YtiigibhnjobcaaaAMOps5
import Derived.KernelRfl
import Derived.Test.YtiigibhnjobcaaaAMInsertInt
import Derived.Test.YtiigibhnjobcaaaChecked
import Derived.Test.YtiigibhnjobcaaaAMOps4
import Derived.Test.YtiigibhnjobcaaaAMLaw
set_option linter.unusedSimpArgs false
set_option linter.unusedVariables false
namespace Go.Proofs.Ytiigibhnjobcaaa
open Go.AM

theorem ul_3 : Try.prog.underlying 3 = some (.int .i64) := by kernel_rfl
theorem lk_3 : lkI Try.prog 3 = some none := by kernel_rfl
theorem sz_3 : szI Try.prog 3 = some 1 := by kernel_rfl
theorem al_3 : alI Try.prog 3 = some ([.int .i64 0]) := by kernel_rfl
theorem ul_4 : Try.prog.underlying 4 = some (.bool) := by kernel_rfl
theorem lk_4 : lkI Try.prog 4 = some none := by kernel_rfl
theorem sz_4 : szI Try.prog 4 = some 1 := by kernel_rfl
theorem al_4 : alI Try.prog 4 = some ([.bool false]) := by kernel_rfl
theorem ul_5 : Try.prog.underlying 5 = some (.int .u8) := by kernel_rfl
theorem lk_5 : lkI Try.prog 5 = some none := by kernel_rfl
theorem sz_5 : szI Try.prog 5 = some 1 := by kernel_rfl
theorem al_5 : alI Try.prog 5 = some ([.int .u8 0]) := by kernel_rfl
theorem ul_9 : Try.prog.underlying 9 = some (.string) := by kernel_rfl
theorem lk_9 : lkI Try.prog 9 = some none := by kernel_rfl
theorem sz_9 : szI Try.prog 9 = some 1 := by kernel_rfl
theorem al_9 : alI Try.prog 9 = some ([.string ByteArray.empty]) := by kernel_rfl
theorem ul_22 : Try.prog.underlying 22 = some (.slice 53) := by kernel_rfl
theorem lk_22 : lkI Try.prog 22 = some none := by kernel_rfl
theorem sz_22 : szI Try.prog 22 = some 1 := by kernel_rfl
theorem al_22 : alI Try.prog 22 = some ([.slice none 0 0]) := by kernel_rfl
theorem el_22 : elI Try.prog 22 = some (53, 3) := by kernel_rfl
theorem ap_22 : apI Try.prog 22 = some (53, 3, 40) := by kernel_rfl
theorem bs_22 : bsI Try.prog 22 = some (53, 3) := by kernel_rfl
theorem ul_23 : Try.prog.underlying 23 = some (.pointer 37) := by kernel_rfl
theorem lk_23 : lkI Try.prog 23 = some none := by kernel_rfl
theorem sz_23 : szI Try.prog 23 = some 1 := by kernel_rfl
theorem al_23 : alI Try.prog 23 = some ([.pointer none]) := by kernel_rfl
theorem ul_24 : Try.prog.underlying 24 = some (.int .i64) := by kernel_rfl
theorem lk_24 : lkI Try.prog 24 = some none := by kernel_rfl
theorem sz_24 : szI Try.prog 24 = some 1 := by kernel_rfl
theorem al_24 : alI Try.prog 24 = some ([.int .i64 0]) := by kernel_rfl
theorem ul_27 : Try.prog.underlying 27 = some (.pointer 58) := by kernel_rfl
theorem lk_27 : lkI Try.prog 27 = some none := by kernel_rfl
theorem sz_27 : szI Try.prog 27 = some 1 := by kernel_rfl
theorem al_27 : alI Try.prog 27 = some ([.pointer none]) := by kernel_rfl
theorem ul_31 : Try.prog.underlying 31 = some (.slice 45) := by kernel_rfl
theorem lk_31 : lkI Try.prog 31 = some none := by kernel_rfl
theorem sz_31 : szI Try.prog 31 = some 1 := by kernel_rfl
theorem al_31 : alI Try.prog 31 = some ([.slice none 0 0]) := by kernel_rfl
theorem el_31 : elI Try.prog 31 = some (45, 2) := by kernel_rfl
theorem ap_31 : apI Try.prog 31 = some (45, 2, 16) := by kernel_rfl
theorem bs_31 : bsI Try.prog 31 = some (45, 2) := by kernel_rfl
theorem ul_34 : Try.prog.underlying 34 = some (.slice 42) := by kernel_rfl
theorem lk_34 : lkI Try.prog 34 = some none := by kernel_rfl
theorem sz_34 : szI Try.prog 34 = some 1 := by kernel_rfl
theorem al_34 : alI Try.prog 34 = some ([.slice none 0 0]) := by kernel_rfl
theorem el_34 : elI Try.prog 34 = some (42, 4) := by kernel_rfl
theorem ap_34 : apI Try.prog 34 = some (42, 4, 32) := by kernel_rfl
theorem bs_34 : bsI Try.prog 34 = some (42, 4) := by kernel_rfl
theorem lk_37 : lkI Try.prog 37 = some (some 1) := by kernel_rfl
theorem sz_37 : szI Try.prog 37 = some 1 := by kernel_rfl
theorem al_37 : alI Try.prog 37 = some ([.slice none 0 0]) := by kernel_rfl
theorem bd_37 : bdI Try.prog 37 = some ([.slice none 0 0], [(0, 1)]) := by kernel_rfl
theorem fd_37_0 : fdI Try.prog 37 0 = some 0 := by kernel_rfl
theorem fv_37_0 : fvI Try.prog 37 0 = some (0, none) := by kernel_rfl
theorem ul_38 : Try.prog.underlying 38 = some (.int .u32) := by kernel_rfl
theorem lk_38 : lkI Try.prog 38 = some none := by kernel_rfl
theorem sz_38 : szI Try.prog 38 = some 1 := by kernel_rfl
theorem al_38 : alI Try.prog 38 = some ([.int .u32 0]) := by kernel_rfl
theorem lk_42 : lkI Try.prog 42 = some (some 4) := by kernel_rfl
theorem sz_42 : szI Try.prog 42 = some 4 := by kernel_rfl
theorem al_42 : alI Try.prog 42 = some ([.int .i64 0, .int .i64 0, .int .u32 0, .int .i64 0]) := by kernel_rfl
theorem bd_42 : bdI Try.prog 42 = some ([.int .i64 0, .int .i64 0, .int .u32 0, .int .i64 0], [(0, 1), (1, 1), (2, 1), (3, 1)]) := by kernel_rfl
theorem se_42 : seI Try.prog 42 = some [(0, .int .i64), (1, .int .i64), (2, .int .u32), (3, .int .i64)] := by kernel_rfl
theorem fd_42_0 : fdI Try.prog 42 0 = some 0 := by kernel_rfl
theorem fv_42_0 : fvI Try.prog 42 0 = some (0, none) := by kernel_rfl
theorem fd_42_1 : fdI Try.prog 42 1 = some 1 := by kernel_rfl
theorem fv_42_1 : fvI Try.prog 42 1 = some (1, none) := by kernel_rfl
theorem fd_42_2 : fdI Try.prog 42 2 = some 2 := by kernel_rfl
theorem fv_42_2 : fvI Try.prog 42 2 = some (2, none) := by kernel_rfl
theorem fd_42_3 : fdI Try.prog 42 3 = some 3 := by kernel_rfl
theorem fv_42_3 : fvI Try.prog 42 3 = some (3, none) := by kernel_rfl
theorem lk_45 : lkI Try.prog 45 = some (some 2) := by kernel_rfl
theorem sz_45 : szI Try.prog 45 = some 2 := by kernel_rfl
theorem al_45 : alI Try.prog 45 = some ([.int .i64 0, .int .u32 0]) := by kernel_rfl
theorem bd_45 : bdI Try.prog 45 = some ([.int .i64 0, .int .u32 0], [(0, 1), (1, 1)]) := by kernel_rfl
theorem se_45 : seI Try.prog 45 = some [(0, .int .i64), (1, .int .u32)] := by kernel_rfl
theorem fd_45_0 : fdI Try.prog 45 0 = some 0 := by kernel_rfl
theorem fv_45_0 : fvI Try.prog 45 0 = some (0, none) := by kernel_rfl
theorem fd_45_1 : fdI Try.prog 45 1 = some 1 := by kernel_rfl
theorem fv_45_1 : fvI Try.prog 45 1 = some (1, none) := by kernel_rfl
theorem ul_49 : Try.prog.underlying 49 = some (.map 3 3) := by kernel_rfl
theorem lk_49 : lkI Try.prog 49 = some none := by kernel_rfl
theorem sz_49 : szI Try.prog 49 = some 1 := by kernel_rfl
theorem al_49 : alI Try.prog 49 = some ([.map none]) := by kernel_rfl
theorem mp_49 : mpI Try.prog 49 = some (.int .i64 0) := by kernel_rfl
theorem ul_50 : Try.prog.underlying 50 = some (.slice 3) := by kernel_rfl
theorem lk_50 : lkI Try.prog 50 = some none := by kernel_rfl
theorem sz_50 : szI Try.prog 50 = some 1 := by kernel_rfl
theorem al_50 : alI Try.prog 50 = some ([.slice none 0 0]) := by kernel_rfl
theorem el_50 : elI Try.prog 50 = some (3, 1) := by kernel_rfl
theorem ap_50 : apI Try.prog 50 = some (3, 1, 8) := by kernel_rfl
theorem bs_50 : bsI Try.prog 50 = some (3, 1) := by kernel_rfl
theorem ul_51 : Try.prog.underlying 51 = some (.slice 5) := by kernel_rfl
theorem lk_51 : lkI Try.prog 51 = some none := by kernel_rfl
theorem sz_51 : szI Try.prog 51 = some 1 := by kernel_rfl
theorem al_51 : alI Try.prog 51 = some ([.slice none 0 0]) := by kernel_rfl
theorem el_51 : elI Try.prog 51 = some (5, 1) := by kernel_rfl
theorem ap_51 : apI Try.prog 51 = some (5, 1, 1) := by kernel_rfl
theorem bs_51 : bsI Try.prog 51 = some (5, 1) := by kernel_rfl
theorem lk_53 : lkI Try.prog 53 = some (some 3) := by kernel_rfl
theorem sz_53 : szI Try.prog 53 = some 3 := by kernel_rfl
theorem al_53 : alI Try.prog 53 = some ([.int .i64 0, .int .i64 0, .slice none 0 0]) := by kernel_rfl
theorem bd_53 : bdI Try.prog 53 = some ([.int .i64 0, .int .i64 0, .slice none 0 0], [(0, 1), (1, 1), (2, 1)]) := by kernel_rfl
theorem fd_53_0 : fdI Try.prog 53 0 = some 0 := by kernel_rfl
theorem fv_53_0 : fvI Try.prog 53 0 = some (0, none) := by kernel_rfl
theorem fd_53_1 : fdI Try.prog 53 1 = some 1 := by kernel_rfl
theorem fv_53_1 : fvI Try.prog 53 1 = some (1, none) := by kernel_rfl
theorem fd_53_2 : fdI Try.prog 53 2 = some 2 := by kernel_rfl
theorem fv_53_2 : fvI Try.prog 53 2 = some (2, none) := by kernel_rfl
theorem ul_55 : Try.prog.underlying 55 = some (.array 1024 4) := by kernel_rfl
theorem lk_55 : lkI Try.prog 55 = some (some 1024) := by kernel_rfl
theorem sz_55 : szI Try.prog 55 = some 1024 := by kernel_rfl
theorem al_55 : alI Try.prog 55 = some (List.replicate 1024 (.bool false)) := by kernel_rfl
theorem ar_55 : arI Try.prog 55 = some (1024, 1) := by kernel_rfl
theorem ul_56 : Try.prog.underlying 56 = some (.array 1024 38) := by kernel_rfl
theorem lk_56 : lkI Try.prog 56 = some (some 1024) := by kernel_rfl
theorem sz_56 : szI Try.prog 56 = some 1024 := by kernel_rfl
theorem al_56 : alI Try.prog 56 = some (List.replicate 1024 (.int .u32 0)) := by kernel_rfl
theorem ar_56 : arI Try.prog 56 = some (1024, 1) := by kernel_rfl
theorem lk_58 : lkI Try.prog 58 = some (some 2048) := by kernel_rfl
theorem sz_58 : szI Try.prog 58 = some 2048 := by kernel_rfl
theorem al_58 : alI Try.prog 58 = some (List.replicate 1024 (.bool false) ++ List.replicate 1024 (.int .u32 0)) := by kernel_rfl
theorem bd_58 : bdI Try.prog 58 = some (List.replicate 1024 (.bool false) ++ List.replicate 1024 (.int .u32 0), [(0, 1024), (1024, 1024)]) := by kernel_rfl
theorem fd_58_0 : fdI Try.prog 58 0 = some 0 := by kernel_rfl
theorem fv_58_0 : fvI Try.prog 58 0 = some (0, some 1024) := by kernel_rfl
theorem fd_58_1 : fdI Try.prog 58 1 = some 1024 := by kernel_rfl
theorem fv_58_1 : fvI Try.prog 58 1 = some (1024, some 1024) := by kernel_rfl
theorem ul_61 : Try.prog.underlying 61 = some (.slice 78) := by kernel_rfl
theorem lk_61 : lkI Try.prog 61 = some none := by kernel_rfl
theorem sz_61 : szI Try.prog 61 = some 1 := by kernel_rfl
theorem al_61 : alI Try.prog 61 = some ([.slice none 0 0]) := by kernel_rfl
theorem el_61 : elI Try.prog 61 = some (78, 2) := by kernel_rfl
theorem ap_61 : apI Try.prog 61 = some (78, 2, 16) := by kernel_rfl
theorem bs_61 : bsI Try.prog 61 = some (78, 2) := by kernel_rfl
theorem ul_62 : Try.prog.underlying 62 = some (.pointer 99) := by kernel_rfl
theorem lk_62 : lkI Try.prog 62 = some none := by kernel_rfl
theorem sz_62 : szI Try.prog 62 = some 1 := by kernel_rfl
theorem al_62 : alI Try.prog 62 = some ([.pointer none]) := by kernel_rfl
theorem lk_64 : lkI Try.prog 64 = some none := by kernel_rfl
theorem sz_64 : szI Try.prog 64 = some 1 := by kernel_rfl
theorem al_64 : alI Try.prog 64 = some [.nilFunc] := by kernel_rfl
theorem ul_68 : Try.prog.underlying 68 = some (.array 2 5) := by kernel_rfl
theorem lk_68 : lkI Try.prog 68 = some (some 2) := by kernel_rfl
theorem sz_68 : szI Try.prog 68 = some 2 := by kernel_rfl
theorem al_68 : alI Try.prog 68 = some ([.int .u8 0, .int .u8 0]) := by kernel_rfl
theorem ar_68 : arI Try.prog 68 = some (2, 1) := by kernel_rfl
theorem bd_68 : bdI Try.prog 68 = some ([.int .u8 0, .int .u8 0], [(0, 1), (1, 1)]) := by kernel_rfl
theorem ul_75 : Try.prog.underlying 75 = some (.pointer 109) := by kernel_rfl
theorem lk_75 : lkI Try.prog 75 = some none := by kernel_rfl
theorem sz_75 : szI Try.prog 75 = some 1 := by kernel_rfl
theorem al_75 : alI Try.prog 75 = some ([.pointer none]) := by kernel_rfl
theorem ul_78 : Try.prog.underlying 78 = some (.array 2 3) := by kernel_rfl
theorem lk_78 : lkI Try.prog 78 = some (some 2) := by kernel_rfl
theorem sz_78 : szI Try.prog 78 = some 2 := by kernel_rfl
theorem al_78 : alI Try.prog 78 = some ([.int .i64 0, .int .i64 0]) := by kernel_rfl
theorem ar_78 : arI Try.prog 78 = some (2, 1) := by kernel_rfl
theorem bd_78 : bdI Try.prog 78 = some ([.int .i64 0, .int .i64 0], [(0, 1), (1, 1)]) := by kernel_rfl
theorem ul_83 : Try.prog.underlying 83 = some (.array 3 5) := by kernel_rfl
theorem lk_83 : lkI Try.prog 83 = some (some 3) := by kernel_rfl
theorem sz_83 : szI Try.prog 83 = some 3 := by kernel_rfl
theorem al_83 : alI Try.prog 83 = some ([.int .u8 0, .int .u8 0, .int .u8 0]) := by kernel_rfl
theorem ar_83 : arI Try.prog 83 = some (3, 1) := by kernel_rfl
theorem bd_83 : bdI Try.prog 83 = some ([.int .u8 0, .int .u8 0, .int .u8 0], [(0, 1), (1, 1), (2, 1)]) := by kernel_rfl
theorem lk_85 : lkI Try.prog 85 = some none := by kernel_rfl
theorem sz_85 : szI Try.prog 85 = some 1 := by kernel_rfl
theorem al_85 : alI Try.prog 85 = some [.nilFunc] := by kernel_rfl
theorem ul_86 : Try.prog.underlying 86 = some (.int .u64) := by kernel_rfl
theorem lk_86 : lkI Try.prog 86 = some none := by kernel_rfl
theorem sz_86 : szI Try.prog 86 = some 1 := by kernel_rfl
theorem al_86 : alI Try.prog 86 = some ([.int .u64 0]) := by kernel_rfl
theorem ul_97 : Try.prog.underlying 97 = some (.slice 50) := by kernel_rfl
theorem lk_97 : lkI Try.prog 97 = some none := by kernel_rfl
theorem sz_97 : szI Try.prog 97 = some 1 := by kernel_rfl
theorem al_97 : alI Try.prog 97 = some ([.slice none 0 0]) := by kernel_rfl
theorem el_97 : elI Try.prog 97 = some (50, 1) := by kernel_rfl
theorem ap_97 : apI Try.prog 97 = some (50, 1, 24) := by kernel_rfl
theorem bs_97 : bsI Try.prog 97 = some (50, 1) := by kernel_rfl
theorem lk_99 : lkI Try.prog 99 = some (some 2) := by kernel_rfl
theorem sz_99 : szI Try.prog 99 = some 2 := by kernel_rfl
theorem al_99 : alI Try.prog 99 = some ([.slice none 0 0, .slice none 0 0]) := by kernel_rfl
theorem bd_99 : bdI Try.prog 99 = some ([.slice none 0 0, .slice none 0 0], [(0, 1), (1, 1)]) := by kernel_rfl
theorem fd_99_0 : fdI Try.prog 99 0 = some 0 := by kernel_rfl
theorem fv_99_0 : fvI Try.prog 99 0 = some (0, none) := by kernel_rfl
theorem fd_99_1 : fdI Try.prog 99 1 = some 1 := by kernel_rfl
theorem fv_99_1 : fvI Try.prog 99 1 = some (1, none) := by kernel_rfl
theorem ul_107 : Try.prog.underlying 107 = some (.slice 110) := by kernel_rfl
theorem lk_107 : lkI Try.prog 107 = some none := by kernel_rfl
theorem sz_107 : szI Try.prog 107 = some 1 := by kernel_rfl
theorem al_107 : alI Try.prog 107 = some ([.slice none 0 0]) := by kernel_rfl
theorem el_107 : elI Try.prog 107 = some (110, 1) := by kernel_rfl
theorem ap_107 : apI Try.prog 107 = some (110, 1, 24) := by kernel_rfl
theorem bs_107 : bsI Try.prog 107 = some (110, 1) := by kernel_rfl
theorem lk_109 : lkI Try.prog 109 = some (some 1) := by kernel_rfl
theorem sz_109 : szI Try.prog 109 = some 1 := by kernel_rfl
theorem al_109 : alI Try.prog 109 = some ([.slice none 0 0]) := by kernel_rfl
theorem bd_109 : bdI Try.prog 109 = some ([.slice none 0 0], [(0, 1)]) := by kernel_rfl
theorem fd_109_0 : fdI Try.prog 109 0 = some 0 := by kernel_rfl
theorem fv_109_0 : fvI Try.prog 109 0 = some (0, none) := by kernel_rfl
theorem ul_110 : Try.prog.underlying 110 = some (.slice 4) := by kernel_rfl
theorem lk_110 : lkI Try.prog 110 = some none := by kernel_rfl
theorem sz_110 : szI Try.prog 110 = some 1 := by kernel_rfl
theorem al_110 : alI Try.prog 110 = some ([.slice none 0 0]) := by kernel_rfl
theorem el_110 : elI Try.prog 110 = some (4, 1) := by kernel_rfl
theorem ap_110 : apI Try.prog 110 = some (4, 1, 1) := by kernel_rfl
theorem bs_110 : bsI Try.prog 110 = some (4, 1) := by kernel_rfl
theorem lk_112 : lkI Try.prog 112 = some none := by kernel_rfl
theorem sz_112 : szI Try.prog 112 = some 1 := by kernel_rfl
theorem al_112 : alI Try.prog 112 = some [.nilFunc] := by kernel_rfl
theorem ul_124 : Try.prog.underlying 124 = some (.int .u64) := by kernel_rfl
theorem lk_124 : lkI Try.prog 124 = some none := by kernel_rfl
theorem sz_124 : szI Try.prog 124 = some 1 := by kernel_rfl
theorem al_124 : alI Try.prog 124 = some ([.int .u64 0]) := by kernel_rfl

end Go.Proofs.Ytiigibhnjobcaaa

/- slices.Insert at claims (two cells an element): the Go text is walked on its four roads; then what the machine asks of it. Conditions: those of InsSpec. -/
namespace Go.AM
open Go.Proofs Go.RowKit Go.Lib


theorem claimInfo : (Try.prog.info? 45).map (fun i => (i.zero, i.size, i.bytes)) = some (some (.agg #[.int .i64 0, .int .u32 0]), 2, 16) := by kernel_rfl

set_option maxHeartbeats 4000000 in
set_option maxRecDepth 100000 in
theorem claim_end_room (b off n c vb voff m vc : Nat) (vs : List Value) (w : World) (hm : 0 < m) (hroom : n + m ≤ c)
    (hvl : vs.length = m * 2) (hsp : ∀ j, j < m * 2 → (w.cell? ⟨b, off + n * 2 + j, none⟩).isSome = true) (hfz : ∀ j, j < m * 2 → w.frozen? ⟨b, off + n * 2 + j, none⟩ = false)
    (hvs : ∀ j v, vs[j]? = some v → w.cell? ⟨vb, voff + j, none⟩ = some v) (h1v : ∀ v ∈ vs, v.oneCell' = true) :
    Calls Try.prog 53 #[.slice (some ⟨b, off, none⟩) n c, .int .i64 n, .slice (some ⟨vb, voff, none⟩) m vc] w fun e w' =>
      e = .returned (.slice (some ⟨b, off, none⟩) (n + m) c) ∧ w' = w.setCells b (off + n * 2) vs := by
  obtain ⟨i0, hi0, hz0, hzs, hzb⟩ := info_parts claimInfo
  have hz1 : ¬ ((m : Int) = 0) := by omega
  have hsrc : Src Try.prog i0.size 31 (.slice (some ⟨vb, voff, none⟩) m vc) m vs w := by
    rw [hzs]
    exact Src.ofSlice w Try.underlying31 ⟨vb, voff, none⟩ m vc vs (by omega) (fun j u hj => by rw [Addr.add_lit]; exact hvs j u hj) h1v
  have hrun : ∀ ty, (Builtin.append_ #[31, 31] ty #[.slice (some ⟨b, off, none⟩) n c, .slice (some ⟨vb, voff, none⟩) m vc]).run Try.prog w = .ok (.slice (some ⟨b, off, none⟩) (n + m) c) (w.setCells b (off + n * 2) vs) := fun ty => by
    have := run_append_room_src (P := Try.prog) w 31 31 ty 45 i0 Try.underlying31 hi0 b off n c _ m vs hsrc hroom (by rw [hvl, hzs]; exact hsp) (by rw [hvl, hzs]; exact hfz)
    rwa [hzs] at this
  go_enter Try.func53, Try.ntmps53
  go_wp2_with (at_builtin; refine Lib.wpList_append_run _ rfl _ _ _ _ rfl _ _ rfl rfl _ _ (hrun _) ?_)
  go_ret
  exact ⟨rfl, rfl⟩

theorem run_copy_any {P : Program} (w : World) (t tx ty e : TypeId) (i : TypeInfo) (ht : P.underlying t = some (.slice e)) (hi : P.info? e = some i) (b off n c : Nat) (src : Addr) (l cc : Nat) (vs : List Value)
    (hvl : vs.length = Nat.min l n * i.size) (hsrc : ∀ j v, vs[j]? = some v → w.cell? (src.add j) = some v) (hsp : ∀ j, j < vs.length → (w.cell? ⟨b, off + j, none⟩).isSome = true) (hfz : ∀ j, j < vs.length → w.frozen? ⟨b, off + j, none⟩ = false)
    (h1v : ∀ v ∈ vs, v.oneCell' = true) :
    (Builtin.copy_ #[t, tx] ty #[.slice (some ⟨b, off, none⟩) n c, .slice (some src) l cc]).run P w = .ok (goInt (Nat.min l n)) (w.setCells b off vs) := by
  have hf := run_firstCells_some (P := P) w i.size (Nat.min l n) src l cc vs hvl hsrc
  have hst := run_storeCells_cells (P := P) b off vs 0 w (by simpa using hsp) (by simpa using hfz) h1v
  simp only [Nat.add_zero] at hst
  have hlen : (Builtin.lenOf (.slice (some src) l cc)).run P w = .ok l w := by simp [Builtin.lenOf]
  have a0 : (#[t, tx] : Array TypeId)[0]? = some t := rfl
  have a1 : (#[Value.slice (some ⟨b, off, none⟩) n c, Value.slice (some src) l cc] : Array Value)[0]? = some (.slice (some ⟨b, off, none⟩) n c) := rfl
  have a2 : (#[Value.slice (some ⟨b, off, none⟩) n c, Value.slice (some src) l cc] : Array Value)[1]? = some (.slice (some src) l cc) := rfl
  simp only [Builtin.copy_, a0, a1, a2, Sem.run_bind, run_underlying ht, Result.andThen_ok, hlen, run_size hi, hf, hst, Sem.run_pure]

set_option maxHeartbeats 4000000 in
set_option maxRecDepth 100000 in
theorem claim_end_grow (base : Option Addr) (n c vb voff m vc : Nat) (cs vs : List Value) (w : World) (hm : 0 < m) (hnc : n ≤ c) (hroom : c < n + m) (hbig : (n + m) * 16 ≤ 140737488355328)
    (hcl : cs.length = n * 2) (hvl : vs.length = m * 2) (hnil : base = none → n = 0)
    (hcs : ∀ a, base = some a → ∀ j v, cs[j]? = some v → w.cell? (a.add j) = some v)
    (hvs : ∀ j v, vs[j]? = some v → w.cell? ⟨vb, voff + j, none⟩ = some v) (h1v : ∀ v ∈ vs, v.oneCell' = true) :
    Calls Try.prog 53 #[.slice base n c, .int .i64 n, .slice (some ⟨vb, voff, none⟩) m vc] w fun e w' =>
      e = .returned (.slice (some ⟨w.heap.size, 0, none⟩) (n + m) (grownCap w (n + m) c 45)) ∧
      w' = w.drew.alloc (.cells ((cs ++ vs).toArray ++ Builtin.zeroCells (Value.agg #[.int .i64 0, .int .u32 0]).cells (grownCap w (n + m) c 45 - (n + m))) 45) := by
  obtain ⟨i0, hi0, hz0, hzs, hzb⟩ := info_parts claimInfo
  have hz1 : ¬ ((m : Int) = 0) := by omega
  have hsrc : Src Try.prog i0.size 31 (.slice (some ⟨vb, voff, none⟩) m vc) m vs w := by
    rw [hzs]
    exact Src.ofSlice w Try.underlying31 ⟨vb, voff, none⟩ m vc vs (by omega) (fun j u hj => by rw [Addr.add_lit]; exact hvs j u hj) h1v
  have hold : (Builtin.firstCells i0.size n (.slice base n c)).run Try.prog w.drew = .ok cs.toArray w.drew := by
    rw [hzs]
    cases base with
    | none =>
      have h0 := hnil rfl
      subst h0
      have hnil0 : cs = [] := List.eq_nil_of_length_eq_zero (by simpa using hcl)
      rw [hnil0]
      exact run_firstCells_none w.drew 2 0 0 c
    | some a => exact run_firstCells_some w.drew 2 n a n c cs (by omega) (fun j v hj => hcs a rfl j v hj)
  have hrun : ∀ ty, (Builtin.append_ #[31, 31] ty #[.slice base n c, .slice (some ⟨vb, voff, none⟩) m vc]).run Try.prog w = _ := fun ty =>
    run_append_grow_src w 31 31 ty 45 i0 _ Try.underlying31 hi0 hz0 base n c cs hold _ m vs hsrc hroom (by omega) (by rw [hzb]; exact growslice_fits hroom hbig)
  cases base with
  | none =>
    have h0 := hnil rfl
    subst h0
    go_enter Try.func53, Try.ntmps53
    go_wp2_with (at_builtin; refine Lib.wpList_append_run _ rfl _ _ _ _ rfl _ _ rfl rfl _ _ (hrun _) ?_)
    go_ret
    exact ⟨rfl, rfl⟩
  | some a =>
    obtain ⟨ab, ao, asp⟩ := a
    go_enter Try.func53, Try.ntmps53
    go_wp2_with (at_builtin; refine Lib.wpList_append_run _ rfl _ _ _ _ rfl _ _ rfl rfl _ _ (hrun _) ?_)
    all_goals (go_ret; exact ⟨rfl, rfl⟩)

theorem setCells_cell {w : World} {b : Nat} {C : Array Value} {e : TypeId} {fr : Nat × Nat} (hb : w.heap[b]? = some (.cells C e fr)) (vs : List Value) (o : Nat) (k : Nat) (hk : k < C.size) : ((w.setCells b o vs).cell? ⟨b, k, none⟩).isSome = true := by
  obtain ⟨C', h1, _, h3, _⟩ := setCells_heap vs o w C hb
  rw [row_cell h1, Array.getElem?_eq_getElem (by omega)]; rfl
theorem setCells_frozen {w : World} {b : Nat} {C : Array Value} {e : TypeId} {fr : Nat × Nat} (hb : w.heap[b]? = some (.cells C e fr)) (hfr : ∀ k, ¬ (fr.1 ≤ k ∧ k < fr.2)) (vs : List Value) (o : Nat) (k : Nat) : (w.setCells b o vs).frozen? ⟨b, k, none⟩ = false := by
  obtain ⟨C', h1, _⟩ := setCells_heap vs o w C hb
  unfold World.frozen?; rw [h1]
  have := hfr k
  simp only [Bool.and_eq_false_iff, decide_eq_false_iff_not]
  by_cases h2 : fr.1 ≤ k
  · exact .inr (fun h3 => this ⟨h2, h3⟩)
  · exact .inl h2
theorem row_frozen {w : World} {b : Nat} {C : Array Value} {e : TypeId} {fr : Nat × Nat} (hb : w.heap[b]? = some (.cells C e fr)) (hfr : ∀ k, ¬ (fr.1 ≤ k ∧ k < fr.2)) (k : Nat) : w.frozen? ⟨b, k, none⟩ = false := setCells_frozen hb hfr [] 0 k

set_option maxHeartbeats 4000000 in
set_option maxRecDepth 100000 in
theorem claim_shift (b off n c i vb voff m vc : Nat) (cs vs : List Value) (w : World) (C : Array Value) (e0 : TypeId) (fr : Nat × Nat) (VC : Array Value) (ve : TypeId) (vfr : Nat × Nat) (hi : i < n) (hm : 0 < m) (hroom : n + m ≤ c) (hc63 : c ≤ 9223372036854775807) (hvb : vb ≠ b)
    (hcl : cs.length = n * 2) (hvl : vs.length = m * 2) (hb : w.heap[b]? = some (.cells C e0 fr)) (hfit : off + c * 2 ≤ C.size) (hfr : ∀ k, ¬ (fr.1 ≤ k ∧ k < fr.2)) (hv : w.heap[vb]? = some (.cells VC ve vfr)) (hvfr : ∀ k, ¬ (vfr.1 ≤ k ∧ k < vfr.2))
    (hcs : ∀ j v, cs[j]? = some v → w.cell? ⟨b, off + j, none⟩ = some v) (hvs : ∀ j v, vs[j]? = some v → w.cell? ⟨vb, voff + j, none⟩ = some v) (h1c : ∀ v ∈ cs, v.oneCell' = true) (h1v : ∀ v ∈ vs, v.oneCell' = true) :
    Calls Try.prog 53 #[.slice (some ⟨b, off, none⟩) n c, .int .i64 i, .slice (some ⟨vb, voff, none⟩) m vc] w fun e w' =>
      e = .returned (.slice (some ⟨b, off, none⟩) (n + m) c) ∧ w' = (w.drew.setCells b (off + (i + m) * 2) (cs.drop (i * 2))).setCells b (off + i * 2) vs := by
  obtain ⟨i0, hi0, hz0, hzs, hzb⟩ := info_parts claimInfo
  have hz1 : ¬ ((m : Int) = 0) := by omega
  have hz2 : ¬ ((i : Int) = (n : Int)) := by omega
  have hov : ∀ lb cb, (callFunc 77 #[.slice (some ⟨vb, voff, none⟩) m vc, .slice (some ⟨b, off + (i + m) * 2, none⟩) lb cb]).run Try.prog w = .ok (.value (.bool false)) w := fun lb cb => by
    rw [run_callFunc_extern Try.func77 (by kernel_rfl) (by kernel_rfl) (by kernel_rfl) (e := Extern.SlicesOverlaps.overlaps #[31, 31] #[4]) (by kernel_rfl),
      Lib.run_overlaps_apart w 31 4 45 Try.underlying31 2 Try.sizeOf45 ⟨vb, voff, none⟩ ⟨b, off + (i + m) * 2, none⟩ m vc lb cb hvb ve e0 VC.size C.size (by unfold World.shape?; rw [hv]) (by unfold World.shape?; rw [hb]) (by omega) (row_frozen hv hvfr _) (row_frozen hv hvfr _)]
    rfl
  have hdl : (cs.drop (i * 2)).length = (n - i) * 2 := by rw [List.length_drop, hcl]; omega
  have hw1 : IntKind.i64.wrap ((i : Int) + (m : Int)) = (i : Int) + (m : Int) := by rw [IntKind.wrap_i64]; omega
  have hb1 : (0 : Int) ≤ (i : Int) + (m : Int) := by omega
  have hin : i ≤ n := by omega
  have htn : ((i : Int) + (m : Int)).toNat = i + m := by omega
  have hb2 : ¬ (c = i + m) := by omega
  have hb3 : (i : Int) ≤ (n : Int) + (m : Int) := by omega
  have hb4 : ¬ (c = i) := by omega
  have hbd : w.drew.heap[b]? = some (.cells C e0 fr) := hb
  have hcp1 : ∀ ty dc sc, (Builtin.copy_ #[31, 31] ty #[.slice (some ⟨b, off + (i + m) * 2, none⟩) (n + m - (i + m)) dc, .slice (some ⟨b, off + i * 2, none⟩) (n + m - i) sc]).run Try.prog w.drew = .ok (goInt (Nat.min (n + m - i) (n + m - (i + m)))) (w.drew.setCells b (off + (i + m) * 2) (cs.drop (i * 2))) := fun ty dc sc =>
    run_copy_any w.drew 31 31 ty 45 i0 Try.underlying31 hi0 b (off + (i + m) * 2) (n + m - (i + m)) dc ⟨b, off + i * 2, none⟩ (n + m - i) sc (cs.drop (i * 2)) (by rw [hdl, hzs]; congr 1; simp only [Nat.min_def]; split <;> omega)
      (fun j v hj => by rw [Addr.add_lit, Nat.add_assoc]; exact hcs (i * 2 + j) v (by rwa [List.getElem?_drop] at hj))
      (fun j hj => setCells_cell hbd [] 0 _ (by omega)) (fun j hj => row_frozen hbd hfr _) (fun v hv => h1c v (List.mem_of_mem_drop hv))
  obtain ⟨W1, hW1⟩ : ∃ W1, W1 = w.drew.setCells b (off + (i + m) * 2) (cs.drop (i * 2)) := ⟨_, rfl⟩
  have hcp2 : ∀ (W : World), (∀ x, W.cell? x = W1.cell? x) → (∀ x, W.frozen? x = W1.frozen? x) → ∀ ty dc, (Builtin.copy_ #[31, 31] ty #[.slice (some ⟨b, off + i * 2, none⟩) (n + m - i) dc, .slice (some ⟨vb, voff, none⟩) m vc]).run Try.prog W = .ok (goInt (Nat.min m (n + m - i))) (W.setCells b (off + i * 2) vs) := fun W hWc hWf ty dc =>
    run_copy_any W 31 31 ty 45 i0 Try.underlying31 hi0 b (off + i * 2) (n + m - i) dc ⟨vb, voff, none⟩ m vc vs (by rw [hvl, hzs]; congr 1; simp only [Nat.min_def]; split <;> omega)
      (fun j v hj => by
        rw [Addr.add_lit, hWc, hW1, World.cell?_setCells_out b _ _ _ _ (fun h _ => absurd h hvb)]
        exact hvs j v hj)
      (fun j hj => by rw [hWc, hW1]; exact setCells_cell hbd _ _ _ (by omega)) (fun j hj => by rw [hWf, hW1]; exact setCells_frozen hbd hfr _ _ _) h1v
  rw [← hW1] at hcp1
  have mixed : Try.prog.follows Departure.mixedOrders = true := by kernel_rfl
  go_enter Try.func53, Try.ntmps53
  go_wp2_with (simp only [hov])
  go_region_law_o (refine step_copy_runI rfl _ _ 31 31 rfl _ _ (by simp [Act.eval, Act.put]) (by simp [Act.eval, Act.put]) (hcp1 _ _ _) ?_)
  go_wp2_with (at_builtin; refine wpList_copy_runI _ rfl _ _ 31 31 rfl _ _ rfl rfl (hcp2 _ (fun _ => rfl) (fun _ => rfl) _ _) ?_)
  go_ret
  first | exact ⟨rfl, rfl⟩ | exact ⟨rfl, by rw [hW1]⟩

set_option maxHeartbeats 4000000 in
set_option maxRecDepth 100000 in
theorem claim_grow (b off n c i vb voff m vc : Nat) (cs vs : List Value) (w : World) (hi : i < n) (hm : 0 < m) (hnc : n ≤ c) (hroom : c < n + m) (hbig : (n + m) * 16 ≤ 140737488355328)
    (hcl : cs.length = n * 2) (hvl : vs.length = m * 2)
    (hcs : ∀ j v, cs[j]? = some v → w.cell? ⟨b, off + j, none⟩ = some v) (hvs : ∀ j v, vs[j]? = some v → w.cell? ⟨vb, voff + j, none⟩ = some v) (h1c : ∀ v ∈ cs, v.oneCell' = true) (h1v : ∀ v ∈ vs, v.oneCell' = true) :
    Calls Try.prog 53 #[.slice (some ⟨b, off, none⟩) n c, .int .i64 i, .slice (some ⟨vb, voff, none⟩) m vc] w fun e w' =>
      e = .returned (.slice (some ⟨w.heap.size, 0, none⟩) (n + m) (grownCap w (n + m) c 45)) ∧
      w' = (((w.alloc (.cells ((cs.take (i * 2)).toArray ++ Builtin.zeroCells (Value.agg #[.int .i64 0, .int .u32 0]).cells (n + m - i) ++ Builtin.zeroCells (Value.agg #[.int .i64 0, .int .u32 0]).cells (grownCap w (n + m) c 45 - (n + m))) 45)).drew.setCells w.heap.size (i * 2) vs).drew).setCells w.heap.size ((i + m) * 2) (cs.drop (i * 2)) := by
  obtain ⟨i0, hi0, hz0, hzs, hzb⟩ := info_parts claimInfo
  have mixed : Try.prog.follows Departure.mixedOrders = true := by kernel_rfl
  have hz1 : ¬ ((m : Int) = 0) := by omega
  have hz2 : ¬ ((i : Int) = (n : Int)) := by omega
  have hz3 : (c : Int) < (n : Int) + (m : Int) := by omega
  have hbw : b < w.heap.size := block_lt_of_cell (hcs 0 _ (List.getElem?_eq_getElem (by omega)))
  have hvw : vb < w.heap.size := block_lt_of_cell (hvs 0 _ (List.getElem?_eq_getElem (by omega)))
  have hkk : (n : Int) + (m : Int) - (i : Int) = ((n + m - i : Nat) : Int) := by omega
  have hik : i + (n + m - i) = n + m := by omega
  have hold : (Builtin.firstCells i0.size i (.slice (some ⟨b, off, none⟩) i c)).run Try.prog w.drew = .ok (cs.take (i * 2)).toArray w.drew := by
    rw [hzs]
    exact run_firstCells_some w.drew 2 i ⟨b, off, none⟩ i c (cs.take (i * 2)) (by rw [List.length_take]; omega) (fun j v hj => by
      rw [Addr.add_lit]
      rw [List.getElem?_take] at hj
      split at hj
      · exact hcs j v hj
      · cases hj)
  have hrz : ∀ ty, (Builtin.append_ #[31, 3] ty #[.slice (some ⟨b, off, none⟩) i c, .int .i64 ((n : Int) + (m : Int) - (i : Int))]).run Try.prog w =
      .ok (.slice (some ⟨w.heap.size, 0, none⟩) (n + m) (grownCap w (n + m) c 45)) (w.drew.alloc (.cells ((cs.take (i * 2)).toArray ++ Builtin.zeroCells (Value.agg #[.int .i64 0, .int .u32 0]).cells (n + m - i) ++ Builtin.zeroCells (Value.agg #[.int .i64 0, .int .u32 0]).cells (grownCap w (n + m) c 45 - (n + m))) 45)) := fun ty => by
    have h := Lib.run_append_grow_zeros w 31 3 ty 45 i0 _ .i64 .i64 Try.underlying31 Try.underlying3 hi0 hz0 (some ⟨b, off, none⟩) i c (cs.take (i * 2)) hold (n + m - i) (by omega) (by omega) (by omega) (by omega) (by rw [hzb]; omega) (by rw [hzb, hik]; exact growslice_fits hroom hbig)
    rw [hik] at h
    rw [hkk]
    exact h
  obtain ⟨G, hG⟩ : ∃ G, G = grownCap w (n + m) c 45 := ⟨_, rfl⟩
  obtain ⟨ROW, hROW⟩ : ∃ ROW : Array Value, ROW = (cs.take (i * 2)).toArray ++ Builtin.zeroCells (Value.agg #[.int .i64 0, .int .u32 0]).cells (n + m - i) ++ Builtin.zeroCells (Value.agg #[.int .i64 0, .int .u32 0]).cells (G - (n + m)) := ⟨_, rfl⟩
  rw [← hG] at hrz ⊢
  rw [← hROW] at hrz ⊢
  have hRl : (n + m) * 2 ≤ ROW.size := by
    rw [hROW]
    simp [Builtin.zeroCells, Value.cells]
    omega
  have hb0 : (w.drew.alloc (.cells ROW 45)).heap[w.heap.size]? = some (.cells ROW 45 (0, 0)) := by
    show (w.heap.push _)[w.heap.size]? = _
    simp
  have hnf : ∀ k : Nat, ¬ ((0, 0) : Nat × Nat).1 ≤ k ∨ ¬ k < ((0, 0) : Nat × Nat).2 := fun k => .inr (Nat.not_lt_zero k)
  have hnf' : ∀ k : Nat, ¬ (((0, 0) : Nat × Nat).1 ≤ k ∧ k < ((0, 0) : Nat × Nat).2) := fun k h => Nat.not_lt_zero k h.2
  obtain ⟨W1, hW1⟩ : ∃ W1, W1 = w.drew.alloc (.cells ROW 45) := ⟨_, rfl⟩
  rw [← hW1] at hrz hb0
  have hOb : ∀ j v, w.cell? ⟨b, j, none⟩ = some v → W1.cell? ⟨b, j, none⟩ = some v := fun j v h => by rw [hW1, World.cell?_alloc_past (w := w.drew) _ b j hbw]; exact h
  have hOv : ∀ j v, w.cell? ⟨vb, j, none⟩ = some v → W1.cell? ⟨vb, j, none⟩ = some v := fun j v h => by rw [hW1, World.cell?_alloc_past (w := w.drew) _ vb j hvw]; exact h
  have hcpA : ∀ (W : World), (∀ x, W.cell? x = W1.cell? x) → (∀ x, W.frozen? x = W1.frozen? x) → ∀ ty dc, (Builtin.copy_ #[31, 31] ty #[.slice (some ⟨w.heap.size, i * 2, none⟩) (n + m - i) dc, .slice (some ⟨vb, voff, none⟩) m vc]).run Try.prog W = .ok (goInt (Nat.min m (n + m - i))) (W.setCells w.heap.size (i * 2) vs) := fun W hWc hWf ty dc =>
    run_copy_any W 31 31 ty 45 i0 Try.underlying31 hi0 w.heap.size (i * 2) (n + m - i) dc ⟨vb, voff, none⟩ m vc vs (by rw [hvl, hzs]; congr 1; simp only [Nat.min_def]; split <;> omega)
      (fun j v hj => by rw [Addr.add_lit, hWc]; exact hOv _ v (hvs j v hj))
      (fun j hj => by rw [hWc]; exact setCells_cell hb0 [] 0 _ (by omega)) (fun j hj => by rw [hWf]; exact row_frozen hb0 hnf' _) h1v
  have hGn : n + m ≤ G := by rw [hG]; exact grownCap_ge w _ _ _
  have hG63 : G ≤ 9223372036854775807 := by
    have := grownCap_le_maxLen w (n + m) c 45 (by unfold maxLen; omega)
    rw [← hG] at this
    unfold maxLen at this
    omega
  have hGi : ¬ (G = i) := by omega
  have hGim : ¬ (G = i + m) := by omega
  have hci : ¬ (c = i) := by omega
  have hbN : b ≠ w.heap.size := by omega
  have hdl : (cs.drop (i * 2)).length = (n - i) * 2 := by rw [List.length_drop, hcl]; omega
  have hcpB : ∀ (W : World), (∀ x, W.cell? x = (W1.setCells w.heap.size (i * 2) vs).cell? x) → (∀ x, W.frozen? x = (W1.setCells w.heap.size (i * 2) vs).frozen? x) → ∀ ty dc sc, (Builtin.copy_ #[31, 31] ty #[.slice (some ⟨w.heap.size, (i + m) * 2, none⟩) (n + m - (i + m)) dc, .slice (some ⟨b, off + i * 2, none⟩) (n - i) sc]).run Try.prog W = .ok (goInt (Nat.min (n - i) (n + m - (i + m)))) (W.setCells w.heap.size ((i + m) * 2) (cs.drop (i * 2))) := fun W hWc hWf ty dc sc =>
    run_copy_any W 31 31 ty 45 i0 Try.underlying31 hi0 w.heap.size ((i + m) * 2) (n + m - (i + m)) dc ⟨b, off + i * 2, none⟩ (n - i) sc (cs.drop (i * 2)) (by rw [hdl, hzs]; congr 1; simp only [Nat.min_def]; split <;> omega)
      (fun j v hj => by
        rw [Addr.add_lit, hWc, World.cell?_setCells_out _ _ _ _ _ (fun h _ => absurd h hbN), Nat.add_assoc]
        exact hOb _ v (hcs (i * 2 + j) v (by rwa [List.getElem?_drop] at hj)))
      (fun j hj => by rw [hWc]; exact setCells_cell hb0 _ _ _ (by omega))
      (fun j hj => by rw [hWf]; exact setCells_frozen hb0 hnf' _ _ _) (fun v hv => h1c v (List.mem_of_mem_drop hv))
  subst hW1
  have hE1 : ∀ x, ((w.alloc (.cells ROW 45)).drew).cell? x = (w.drew.alloc (.cells ROW 45)).cell? x := fun x => rfl
  have hE2 : ∀ x, ((w.alloc (.cells ROW 45)).drew).frozen? x = (w.drew.alloc (.cells ROW 45)).frozen? x := fun x => rfl
  have hF1 : ∀ x, (((w.alloc (.cells ROW 45)).drew.setCells w.heap.size (i * 2) vs).drew).cell? x = ((w.drew.alloc (.cells ROW 45)).setCells w.heap.size (i * 2) vs).cell? x := fun x => rfl
  have hF2 : ∀ x, (((w.alloc (.cells ROW 45)).drew.setCells w.heap.size (i * 2) vs).drew).frozen? x = ((w.drew.alloc (.cells ROW 45)).setCells w.heap.size (i * 2) vs).frozen? x := fun x => rfl
  have hw1 : IntKind.i64.wrap ((i : Int) + (m : Int)) = (i : Int) + (m : Int) := by rw [IntKind.wrap_i64]; omega
  have hb1 : (0 : Int) ≤ (i : Int) + (m : Int) := by omega
  have hin : i ≤ n := by omega
  have htn : ((i : Int) + (m : Int)).toNat = i + m := by omega
  have hb3 : (i : Int) ≤ (n : Int) := by omega
  clear hkk hik hold hROW hG hRl hb0 hnf hnf'
  go_enter Try.func53, Try.ntmps53
  go_wp2_with (first
    | (at_builtin; refine Lib.wpList_append_run _ rfl _ _ _ _ rfl _ _ rfl rfl _ _ (hrz _) ?_)
    | (at_builtin; refine wpList_copy_runI _ rfl _ _ 31 31 rfl _ _ rfl rfl (hcpA _ hE1 hE2 _ _) ?_)
    | (at_builtin; refine wpList_copy_runI _ rfl _ _ 31 31 rfl _ _ rfl rfl (hcpB _ (fun _ => rfl) (fun _ => rfl) _ _ _) ?_))
  go_region_law_o (refine step_copy_runI rfl _ _ 31 31 rfl (.slice (some ⟨w.heap.size, (i + m) * 2, none⟩) (n + m - (i + m)) (G - (i + m))) (.slice (some ⟨b, off + i * 2, none⟩) (n - i) (c - i)) (by simp [Act.eval, Act.put]) (by simp [Act.eval, Act.put]) (hcpB _ hF1 hF2 3 (G - (i + m)) (c - i)) ?_)
  go_wp2
  go_ret
  exact ⟨rfl, rfl⟩

set_option maxHeartbeats 1000000 in
theorem insSpec_claim : InsSpec Try.prog 53 45 2 16 := by
  intro base n c i vb voff m vc cs vs VC ve vfr w C fr hi hm hnc hbig hc63 hcl hvl hnil hsome hvb hvfit hvs hvfr h1c h1v
  have vcell : ∀ j v, vs[j]? = some v → w.cell? ⟨vb, voff + j, none⟩ = some v := by
    intro j v hv
    rw [row_cell hvb]
    rw [hvs, List.getElem?_take, List.getElem?_drop] at hv
    split at hv
    · simpa using hv
    · cases hv
  have vshape : w.shape? vb = some (ve, VC.length) := by unfold World.shape?; rw [hvb]; simp
  have vfrz : ∀ k, w.frozen? ⟨vb, k, none⟩ = false := by
    intro k
    unfold World.frozen?; rw [hvb]
    have := hvfr k
    simp only [Bool.and_eq_false_iff, decide_eq_false_iff_not]
    by_cases h1 : vfr.1 ≤ k
    · exact .inr (fun h2 => this ⟨h1, h2⟩)
    · exact .inl h1
  have gcap : ∀ c0, n + m ≤ grownCap w (n + m) c0 45 ∧ grownCap w (n + m) c0 45 ≤ 9223372036854775807 := fun c0 => ⟨grownCap_ge w _ _ _, grownCap_le_maxLen w _ _ _ (by unfold maxLen; omega)⟩
  cases base with
  | none =>
    obtain ⟨rfl, rfl⟩ := hnil rfl
    obtain rfl : i = 0 := by omega
    obtain rfl : cs = [] := List.eq_nil_of_length_eq_zero (by simpa using hcl)
    refine (claim_end_grow none 0 0 vb voff m vc [] vs w hm (Nat.le_refl _) (by omega) (by omega) rfl hvl (fun _ => rfl) (fun a h => by cases h) vcell h1v).mono ?_
    rintro x w' ⟨rfl, rfl⟩
    refine ⟨⟨rfl, rfl, rfl⟩, ?_⟩
    rw [if_neg (by omega)]
    refine ⟨_, (Builtin.zeroCells (Value.agg #[.int .i64 0, .int .u32 0]).cells (grownCap w (0 + m) 0 45 - (0 + m))).toList, (gcap 0).1, (gcap 0).2, rfl, by simp [Builtin.zeroCells, Value.cells], ?_⟩
    show w.heap.push _ = _
    congr 2
    apply Array.ext'; simp
  | some p =>
    obtain ⟨b, off⟩ := p
    obtain ⟨hb, hfit, hcs, hroomC⟩ := hsome b off rfl
    have ccell : ∀ j v, cs[j]? = some v → w.cell? ⟨b, off + j, none⟩ = some v := by
      intro j v hv
      rw [row_cell hb]
      rw [hcs, List.getElem?_take, List.getElem?_drop] at hv
      split at hv
      · simpa using hv
      · cases hv
    have cget : ∀ j, j < n * 2 → cs[j]? = C.toList[off + j]? := by
      intro j hj
      rw [hcs, List.getElem?_take, if_pos hj, List.getElem?_drop]
    simp only [Option.map_some]
    by_cases hroom : n + m ≤ c
    · obtain ⟨hne, hfr⟩ := hroomC hroom
      have bfrz : ∀ k, w.frozen? ⟨b, k, none⟩ = false := by
        intro k
        unfold World.frozen?; rw [hb]
        have := hfr k
        simp only [Bool.and_eq_false_iff, decide_eq_false_iff_not]
        by_cases h1 : fr.1 ≤ k
        · exact .inr (fun h2 => this ⟨h1, h2⟩)
        · exact .inl h1
      have some_ : ∀ k, k < C.size → (w.cell? ⟨b, k, none⟩).isSome = true := by
        intro k hk; rw [row_cell hb, Array.getElem?_eq_getElem hk]; rfl
      by_cases hin : i = n
      · subst hin
        refine (claim_end_room b off i c vb voff m vc vs w hm hroom hvl (fun j hj => some_ _ (by omega)) (fun j _ => bfrz _) vcell h1v).mono ?_
        rintro x w' ⟨rfl, rfl⟩
        obtain ⟨C', q1, q2, q3, q4, q5⟩ := setCells_heap vs (off + i * 2) w C hb
        refine ⟨setCells_env _ _ _ w, ?_⟩
        rw [if_pos hroom]
        refine ⟨b, off, rfl, rfl, q4, q5, C', q1, q3, ?_⟩
        rw [q2]
        apply List.ext_getElem?
        intro k
        have hCl : C.toList.length = C.size := Array.length_toList
        rw [setRow_getI _ _ _ _ (by omega), setRow_getI _ _ _ _ (by simp [hcl, hvl]; omega)]
        have hpl : (cs.take (i * 2) ++ vs ++ cs.drop (i * 2)).length = (i + m) * 2 := by simp [hcl, hvl]; omega
        rw [hpl]
        by_cases h1 : off ≤ k ∧ k < off + (i + m) * 2
        · rw [if_pos h1, getElem?_pieces _ _ _ _ (by omega)]
          by_cases h2 : k - off < i * 2
          · rw [if_pos h2, if_neg (by omega), cget _ h2]; congr 1; omega
          · rw [if_neg h2, if_pos (by omega), if_pos (by omega)]; congr 1; omega
        · rw [if_neg h1, if_neg (by omega)]
      · refine (claim_shift b off n c i vb voff m vc cs vs w C 45 fr VC.toArray ve vfr (by omega) hm hroom hc63 hne hcl hvl hb hfit hfr hvb hvfr ccell vcell h1c h1v).mono ?_
        rintro x w' ⟨rfl, rfl⟩
        have hbd : w.drew.heap[b]? = some (.cells C 45 fr) := hb
        obtain ⟨C1, q1, q2, q3, q4, q5⟩ := setCells_heap (cs.drop (i * 2)) (off + (i + m) * 2) w.drew C hbd
        obtain ⟨C', r1, r2, r3, r4, r5⟩ := setCells_heap vs (off + i * 2) (w.drew.setCells b (off + (i + m) * 2) (cs.drop (i * 2))) C1 q1
        refine ⟨SameEnv.trans (SameEnv.trans ⟨rfl, rfl, rfl⟩ (setCells_env (cs.drop (i * 2)) b (off + (i + m) * 2) w.drew)) (setCells_env vs b (off + i * 2) _), ?_⟩
        rw [if_pos hroom]
        refine ⟨b, off, rfl, rfl, by rw [r4, q4]; rfl, fun k hk => by rw [r5 k hk, q5 k hk]; rfl, C', r1, by rw [r3, q3], ?_⟩
        rw [r2, q2]
        apply List.ext_getElem?
        intro k
        have hCl : C.toList.length = C.size := Array.length_toList
        have hdl : (cs.drop (i * 2)).length = (n - i) * 2 := by simp [hcl]; omega
        rw [setRow_getI _ _ _ _ (by rw [setRow_length]; omega), setRow_getI _ _ _ _ (by omega), setRow_getI _ _ _ _ (by simp [hcl, hvl]; omega)]
        have hpl : (cs.take (i * 2) ++ vs ++ cs.drop (i * 2)).length = (n + m) * 2 := by simp [hcl, hvl]; omega
        rw [hpl, hdl, hvl, List.getElem?_drop]
        by_cases h1 : off ≤ k ∧ k < off + (n + m) * 2
        · rw [if_pos h1, getElem?_pieces _ _ _ _ (by omega)]
          by_cases h2 : k - off < i * 2
          · rw [if_pos h2, if_neg (by omega), if_neg (by omega), cget _ (by omega)]; congr 1; omega
          · rw [if_neg h2]
            by_cases h3 : k - off < i * 2 + vs.length
            · rw [if_pos h3, if_pos (by omega)]; congr 1; omega
            · rw [if_neg h3, if_neg (by omega), if_pos (by omega)]; congr 1; omega
        · rw [if_neg h1, if_neg (by omega), if_neg (by omega)]
    · by_cases hin : i = n
      · subst hin
        refine (claim_end_grow (some ⟨b, off, none⟩) i c vb voff m vc cs vs w hm hnc (by omega) hbig hcl hvl (fun h => by cases h) (fun a h j v hv => by cases h; rw [Go.WideShapes.add_plain]; exact ccell j v hv) vcell h1v).mono ?_
        rintro x w' ⟨rfl, rfl⟩
        refine ⟨⟨rfl, rfl, rfl⟩, ?_⟩
        rw [if_neg hroom]
        refine ⟨_, (Builtin.zeroCells (Value.agg #[.int .i64 0, .int .u32 0]).cells (grownCap w (i + m) c 45 - (i + m))).toList, (gcap c).1, (gcap c).2, rfl, by simp [Builtin.zeroCells, Value.cells], ?_⟩
        show w.heap.push _ = _
        congr 2
        apply Array.ext'
        rw [List.take_of_length_le (by omega), List.drop_of_length_le (by omega)]
        simp
      · refine (claim_grow b off n c i vb voff m vc cs vs w (by omega) hm hnc (by omega) hbig hcl hvl ccell vcell h1c h1v).mono ?_
        rintro x w' ⟨rfl, rfl⟩
        have z1 : ∀ k, (Builtin.zeroCells (Value.agg #[.int .i64 0, .int .u32 0]).cells k).toList.length = k * 2 := fun k => by simp [Builtin.zeroCells, Value.cells]
        have hb0 : ((w.alloc (.cells ((cs.take (i * 2)).toArray ++ Builtin.zeroCells (Value.agg #[.int .i64 0, .int .u32 0]).cells (n + m - i) ++ Builtin.zeroCells (Value.agg #[.int .i64 0, .int .u32 0]).cells (grownCap w (n + m) c 45 - (n + m))) 45)).drew).heap[w.heap.size]? = some (.cells ((cs.take (i * 2)).toArray ++ Builtin.zeroCells (Value.agg #[.int .i64 0, .int .u32 0]).cells (n + m - i) ++ Builtin.zeroCells (Value.agg #[.int .i64 0, .int .u32 0]).cells (grownCap w (n + m) c 45 - (n + m))) 45 (0, 0)) := by
          show (w.heap.push _)[w.heap.size]? = _
          simp
        obtain ⟨C1, q1, q2, q3, q4, q5⟩ := setCells_heap vs (i * 2) _ _ hb0
        obtain ⟨C', r1, r2, r3, r4, r5⟩ := setCells_heap (cs.drop (i * 2)) ((i + m) * 2) (((w.alloc (.cells ((cs.take (i * 2)).toArray ++ Builtin.zeroCells (Value.agg #[.int .i64 0, .int .u32 0]).cells (n + m - i) ++ Builtin.zeroCells (Value.agg #[.int .i64 0, .int .u32 0]).cells (grownCap w (n + m) c 45 - (n + m))) 45)).drew.setCells w.heap.size (i * 2) vs).drew) C1 q1
        refine ⟨SameEnv.trans (SameEnv.trans (b := ((w.alloc (.cells ((cs.take (i * 2)).toArray ++ Builtin.zeroCells (Value.agg #[.int .i64 0, .int .u32 0]).cells (n + m - i) ++ Builtin.zeroCells (Value.agg #[.int .i64 0, .int .u32 0]).cells (grownCap w (n + m) c 45 - (n + m))) 45)).drew.setCells w.heap.size (i * 2) vs)) (SameEnv.trans (b := (w.alloc (.cells ((cs.take (i * 2)).toArray ++ Builtin.zeroCells (Value.agg #[.int .i64 0, .int .u32 0]).cells (n + m - i) ++ Builtin.zeroCells (Value.agg #[.int .i64 0, .int .u32 0]).cells (grownCap w (n + m) c 45 - (n + m))) 45)).drew) ⟨rfl, rfl, rfl⟩ (setCells_env _ _ _ _)) ⟨rfl, rfl, rfl⟩) (setCells_env _ _ _ _), ?_⟩
        rw [if_neg hroom]
        refine ⟨_, (Builtin.zeroCells (Value.agg #[.int .i64 0, .int .u32 0]).cells (grownCap w (n + m) c 45 - (n + m))).toList, (gcap c).1, (gcap c).2, rfl, z1 _, ?_⟩
        apply Array.ext_getElem?
        intro k
        rw [Array.getElem?_push]
        by_cases hk : k = w.heap.size
        · subst hk
          rw [if_pos rfl, r1]
          congr 2
          apply Array.ext'
          rw [r2, q2]
          apply List.ext_getElem?
          intro k
          simp only [Array.toList_append]
          have zl := z1 (n + m - i)
          have zl2 := z1 (grownCap w (n + m) c 45 - (n + m))
          have tl : (cs.take (i * 2)).length = i * 2 := by simp [hcl]; omega
          have dl : (cs.drop (i * 2)).length = (n - i) * 2 := by simp [hcl]; omega
          rw [setRow_getI _ _ _ _ (by rw [setRow_length]; simp only [List.length_append, tl, zl, zl2, dl]; omega), setRow_getI _ _ _ _ (by simp only [List.length_append, tl, zl, zl2]; omega)]
          rw [dl, hvl]
          generalize (Builtin.zeroCells (Value.agg #[.int .i64 0, .int .u32 0]).cells (grownCap w (n + m) c 45 - (n + m))).toList = Z2 at *
          generalize (Builtin.zeroCells (Value.agg #[.int .i64 0, .int .u32 0]).cells (n + m - i)).toList = Z1 at *
          rw [List.getElem?_append (l₁ := cs.take (i * 2) ++ vs ++ cs.drop (i * 2)), List.getElem?_append (l₁ := cs.take (i * 2) ++ Z1)]
          have hpl : (cs.take (i * 2) ++ vs ++ cs.drop (i * 2)).length = (n + m) * 2 := by simp [hcl, hvl]; omega
          rw [hpl, getElem?_pieces _ _ _ _ (by omega)]
          have e1 : (cs.take (i * 2) ++ Z1).length = (n + m) * 2 := by simp only [List.length_append, tl, zl]; omega
          rw [e1, List.getElem?_append, tl, List.getElem?_take, List.getElem?_drop]
          by_cases h1 : k < i * 2
          · rw [if_neg (by omega), if_neg (by omega), if_pos (by omega), if_pos h1, if_pos h1, if_pos (by omega), if_pos h1]
          · by_cases h2 : k < (i + m) * 2
            · rw [if_neg (by omega), if_pos (by omega), if_pos (by omega), if_neg h1, if_pos (by omega)]
            · by_cases h3 : k < (n + m) * 2
              · rw [if_pos (by omega), if_pos h3, if_neg h1, if_neg (by omega)]; congr 1; omega
              · rw [if_neg (by omega), if_neg (by omega), if_neg h3, if_neg h3]
        · rw [if_neg hk, r5 k hk]
          show (((w.alloc _).drew).setCells w.heap.size (i * 2) vs).heap[k]? = _
          rw [q5 k hk]
          show (w.heap.push _)[k]? = _
          rw [Array.getElem?_push, if_neg hk]

end Go.AM

namespace Go.Proofs.Ytiigibhnjobcaaa
open Go.AM
set_option maxRecDepth 8000
theorem b89_C1 : type_of% (And.intro (@AM.bin_neq) (@AM.op_binOp)) := And.intro (@AM.bin_neq) (@AM.op_binOp)
theorem b76_C1 : type_of% (And.intro (@AM.bin_gtr) (And.intro (@AM.bin_lss) (And.intro (@AM.op_binOp) (@AM.op_call)))) := And.intro (@AM.bin_gtr) (And.intro (@AM.bin_lss) (And.intro (@AM.op_binOp) (@AM.op_call)))
theorem b51_C1 : type_of% (And.intro (@AM.bin_geq) (And.intro (@AM.bin_lss) (@AM.op_binOp))) := And.intro (@AM.bin_geq) (And.intro (@AM.bin_lss) (@AM.op_binOp))
theorem b75_C1 : type_of% (And.intro (@AM.boxK_agg) (And.intro (@AM.boxK_bool) (And.intro (@AM.boxK_func) (And.intro (@AM.boxK_int) (And.intro (@AM.boxK_map) (And.intro (@AM.boxK_pointer) (And.intro (@AM.boxK_slice) (And.intro (@AM.boxK_string) (And.intro (@AM.fa_ptr) (And.intro (@fd_45_0) (And.intro (@AM.ldO_agg) (And.intro (@AM.ldO_one) (And.intro (@AM.ld_ptr) (And.intro (@lk_3) (And.intro (@AM.op_box) (And.intro (@AM.op_call) (And.intro (@AM.op_fieldAddr) (@AM.op_load)))))))))))))))))) := And.intro (@AM.boxK_agg) (And.intro (@AM.boxK_bool) (And.intro (@AM.boxK_func) (And.intro (@AM.boxK_int) (And.intro (@AM.boxK_map) (And.intro (@AM.boxK_pointer) (And.intro (@AM.boxK_slice) (And.intro (@AM.boxK_string) (And.intro (@AM.fa_ptr) (And.intro (@fd_45_0) (And.intro (@AM.ldO_agg) (And.intro (@AM.ldO_one) (And.intro (@AM.ld_ptr) (And.intro (@lk_3) (And.intro (@AM.op_box) (And.intro (@AM.op_call) (And.intro (@AM.op_fieldAddr) (@AM.op_load)))))))))))))))))
theorem b74_C1 : type_of% (And.intro (@AM.bin_add) (And.intro (@AM.bin_eql) (And.intro (@AM.bin_lss) (And.intro (@AM.bin_shr) (And.intro (AM.cv_int ul_3 ul_86) (And.intro (AM.cv_int ul_86 ul_3) (And.intro (@AM.iaO_ok) (And.intro (AM.ia_slice el_31) (And.intro (@AM.ldO_agg) (And.intro (@AM.ldO_one) (And.intro (@AM.ld_ptr) (And.intro (AM.len_slice ul_31) (And.intro (@lk_45) (And.intro (@AM.op_binOp) (And.intro (@AM.op_call) (And.intro (@AM.op_convert) (And.intro (@AM.op_indexAddr) (And.intro (@AM.op_len) (And.intro (@AM.op_load) (@AM.resL_two)))))))))))))))))))) := And.intro (@AM.bin_add) (And.intro (@AM.bin_eql) (And.intro (@AM.bin_lss) (And.intro (@AM.bin_shr) (And.intro (AM.cv_int ul_3 ul_86) (And.intro (AM.cv_int ul_86 ul_3) (And.intro (@AM.iaO_ok) (And.intro (AM.ia_slice el_31) (And.intro (@AM.ldO_agg) (And.intro (@AM.ldO_one) (And.intro (@AM.ld_ptr) (And.intro (AM.len_slice ul_31) (And.intro (@lk_45) (And.intro (@AM.op_binOp) (And.intro (@AM.op_call) (And.intro (@AM.op_convert) (And.intro (@AM.op_indexAddr) (And.intro (@AM.op_len) (And.intro (@AM.op_load) (@AM.resL_two)))))))))))))))))))
theorem b52_C1 : type_of% (And.intro (@Option.isNone_none.{0}) (And.intro (@Option.isNone_some.{0}) (And.intro (AM.bin_pnil ul_23) (And.intro (@AM.ex_tuple) (And.intro (@AM.fa_ptr) (And.intro (@fd_37_0) (And.intro (@AM.ldO_agg) (And.intro (@AM.ldO_one) (And.intro (@AM.ld_ptr) (And.intro (@lk_31) (And.intro (@AM.op_binOp) (And.intro (@AM.op_call) (And.intro (@AM.op_extract) (And.intro (@AM.op_fieldAddr) (And.intro (@AM.op_load) (And.intro (@AM.op_nilCheck) (@AM.resL_two))))))))))))))))) := And.intro (@Option.isNone_none.{0}) (And.intro (@Option.isNone_some.{0}) (And.intro (AM.bin_pnil ul_23) (And.intro (@AM.ex_tuple) (And.intro (@AM.fa_ptr) (And.intro (@fd_37_0) (And.intro (@AM.ldO_agg) (And.intro (@AM.ldO_one) (And.intro (@AM.ld_ptr) (And.intro (@lk_31) (And.intro (@AM.op_binOp) (And.intro (@AM.op_call) (And.intro (@AM.op_extract) (And.intro (@AM.op_fieldAddr) (And.intro (@AM.op_load) (And.intro (@AM.op_nilCheck) (@AM.resL_two))))))))))))))))


noncomputable def prims : Prims := fun g => if g = 53 then some (pInsert Try.prog 45) else none
theorem hp : PMono prims := by
  intro g p e c c' _ all h r hh
  unfold prims at e
  split at e
  · cases e; exact hh
  · cases e
theorem insertOk : PrimOk Try.prog (fun _ => false) 53 (pInsert Try.prog 45) := by
  obtain ⟨inf, hi, h1⟩ : ∃ inf, Try.prog.info? 45 = some inf ∧ (inf.size, inf.bytes) = (2, 16) := by
    have h : (Try.prog.info? 45).map (fun i => (i.size, i.bytes)) = some (2, 16) := by kernel_rfl
    exact Option.map_eq_some_iff.1 h
  simp only [Prod.mk.injEq] at h1
  refine insert_ok Try.func53 rfl (by kernel_rfl) hi ?_
  rw [h1.1, h1.2]
  exact insSpec_claim
theorem primsOk : ∀ g p, prims g = some p → PrimOk Try.prog (fun _ => false) g p := by
  intro g p hp
  unfold prims at hp
  split at hp
  · rename_i e; cases hp; subst e; exact insertOk
  · cases hp
theorem primsKeep : PrimsKeep prims := by
  intro g p hp call _ all h r h' hl hh
  unfold prims at hp
  split at hp
  · cases hp; exact insert_keeps hl hh
  · cases hp
abbrev W (K : Nat) (args : List Value) (h : AHeap) (Q : VQ) : Prop := CallW Try.prog prims (.func (.func K) #[] #[]) args h Q
theorem insI : (Try.prog.info? 45).map (fun i => (i.size, i.bytes)) = some (2, 16) := by kernel_rfl

/-! ### Lists of claims, rising -/
abbrev Cm := Int × Int
def encC (c : Cm) : List Value := [.int .i64 c.1, .int .u32 c.2]
theorem encC_len (c : Cm) : (encC c).length = 2 := rfl
abbrev d0 : Cm := (0, 0)
def Srt (L : List Cm) : Prop := L.Pairwise fun a b => a.1 < b.1
def getC (L : List Cm) (x : Int) : Option Int := (L.find? fun p => p.1 == x).map (·.2)
def hasC (L : List Cm) (x : Int) : Bool := L.any fun p => p.1 == x
def posC (L : List Cm) (x : Int) : Nat := L.countP fun p => decide (p.1 < x)
def insC (L : List Cm) (x g : Int) : List Cm := L.take (posC L x) ++ (x, g) :: L.drop (posC L x)
theorem posC_le (L : List Cm) (x : Int) : posC L x ≤ L.length := List.countP_le_length
theorem posC_split : ∀ (L : List Cm) (x : Int) (i : Nat), i ≤ L.length → (∀ k, k < i → (L.getD k d0).1 < x) → (∀ k, i ≤ k → k < L.length → x ≤ (L.getD k d0).1) → posC L x = i
  | [], x, i, h, _, _ => by simp at h; subst h; rfl
  | p :: L, x, 0, h, _, h2 => by
    have hp : ¬ p.1 < x := by have := h2 0 (Nat.le_refl _) (by simp); simp at this; omega
    have := posC_split L x 0 (Nat.zero_le _) (fun k hk => by omega) (fun k _ hk => by have := h2 (k + 1) (Nat.zero_le _) (by simpa using hk); simpa using this)
    unfold posC at this ⊢
    rw [List.countP_cons_of_neg (by simpa using hp), this]
  | p :: L, x, i + 1, h, h1, h2 => by
    have hp : p.1 < x := by have := h1 0 (by omega); simpa using this
    have := posC_split L x i (by simpa using h) (fun k hk => by have := h1 (k + 1) (by omega); simpa using this) (fun k hk hk2 => by have := h2 (k + 1) (by omega) (by simpa using hk2); simpa using this)
    unfold posC at this ⊢
    rw [List.countP_cons_of_pos (by simpa using hp), this]
theorem Srt.lt {L : List Cm} (hs : Srt L) {i j : Nat} (hij : i < j) (hj : j < L.length) : (L.getD i d0).1 < (L.getD j d0).1 := by
  have := List.pairwise_iff_getElem.1 hs i j (by omega) hj hij
  simpa [List.getD, show i < L.length by omega, hj] using this
theorem Srt.le {L : List Cm} (hs : Srt L) {i j : Nat} (hij : i ≤ j) (hj : j < L.length) : (L.getD i d0).1 ≤ (L.getD j d0).1 := by
  by_cases e : i = j
  · subst e; exact Int.le_refl _
  · have := hs.lt (show i < j by omega) hj; omega
theorem hasC_at {L : List Cm} (hs : Srt L) (x : Int) (i : Nat) (h1 : ∀ k, k < i → (L.getD k d0).1 < x) (h2 : ∀ k, i ≤ k → k < L.length → x ≤ (L.getD k d0).1) : hasC L x = (decide (i < L.length) && decide ((L.getD i d0).1 = x)) := by
  rw [Bool.eq_iff_iff]
  unfold hasC
  simp only [List.any_eq_true, beq_iff_eq, Bool.and_eq_true, decide_eq_true_eq]
  constructor
  · rintro ⟨p, hp, rfl⟩
    obtain ⟨k, hk, rfl⟩ := List.getElem_of_mem hp
    have e : (L.getD k d0) = L[k] := by simp [List.getD, hk]
    have hik : i ≤ k := by
      by_cases q : i ≤ k
      · exact q
      · have := h1 k (by omega); rw [e] at this; omega
    have := h2 i (Nat.le_refl _) (by omega)
    by_cases q : i = k
    · subst q; exact ⟨hk, by rw [e]⟩
    · have := hs.lt (show i < k by omega) hk; rw [e] at this; omega
  · rintro ⟨hi, e⟩
    exact ⟨L.getD i d0, by simp [List.getD, hi], e⟩

/-! ### Comparing -/
def cmpI (a b : Int) : Int := if a < b then -1 else if b < a then 1 else 0
theorem cmpI_lt (a b : Int) : cmpI a b < 0 ↔ a < b := by unfold cmpI; split <;> (try split) <;> omega
theorem cmpI_eq (a b : Int) : cmpI a b = 0 ↔ a = b := by unfold cmpI; split <;> (try split) <;> omega
theorem isNaN_w (a : Int) (h : AHeap) (Q : VQ) (hq : Q (.bool false) h) : W 89 [.int .i64 a] h Q := by
  refine AM.enter hp (fn := Try.f89) (rs := [.tmp 2]) (nt := 6) (by kernel_rfl) Try.func89 rfl rfl rfl (by kernel_rfl) ?_
  (first | (simp (disch := first | omega | (simp only [AM.DB, List.length_set, List.length_map]; done) | (simp only [AM.DB, List.length_set, List.length_map]; omega)) only [AM.RB, Nat.reduceAdd, Nat.reduceMul, Nat.reduceEqDiff, reduceCtorEq, b89_C1]) | skip); (repeat' (first | (refine AM.guard_spl ?_ ?_ <;> (intro hd hp_; simp (disch := first | omega | (simp only [AM.DB, List.length_set, List.length_map]; done) | (simp only [AM.DB, List.length_set, List.length_map]; omega)) only [AM.RB, Nat.reduceAdd, Nat.reduceMul, Nat.reduceEqDiff, reduceCtorEq, b89_C1, hd])) | (refine AM.cond_spl ?_ ?_ <;> (intro hd hp_; simp (disch := first | omega | (simp only [AM.DB, List.length_set, List.length_map]; done) | (simp only [AM.DB, List.length_set, List.length_map]; omega)) only [AM.RB, Nat.reduceAdd, Nat.reduceMul, Nat.reduceEqDiff, reduceCtorEq, b89_C1, hd])) | (refine AM.guard_b ?_ ?_ <;> (intro hd hp_; simp (disch := first | omega | (simp only [AM.DB, List.length_set, List.length_map]; done) | (simp only [AM.DB, List.length_set, List.length_map]; omega)) only [AM.RB, Nat.reduceAdd, Nat.reduceMul, Nat.reduceEqDiff, reduceCtorEq, b89_C1, hd])) | (refine AM.cond_b ?_ ?_ <;> (intro hd hp_; simp (disch := first | omega | (simp only [AM.DB, List.length_set, List.length_map]; done) | (simp only [AM.DB, List.length_set, List.length_map]; omega)) only [AM.RB, Nat.reduceAdd, Nat.reduceMul, Nat.reduceEqDiff, reduceCtorEq, b89_C1, hd])) | (refine AM.drawW_fine hp (by kernel_rfl) (by kernel_rfl) ?_; simp (disch := first | omega | (simp only [AM.DB, List.length_set, List.length_map]; done) | (simp only [AM.DB, List.length_set, List.length_map]; omega)) only [AM.RB, Nat.reduceAdd, Nat.reduceMul, Nat.reduceEqDiff, reduceCtorEq, b89_C1]) | (refine AM.opW_tied (by kernel_rfl) ?_; simp (disch := first | omega | (simp only [AM.DB, List.length_set, List.length_map]; done) | (simp only [AM.DB, List.length_set, List.length_map]; omega)) only [AM.RB, Nat.reduceAdd, Nat.reduceMul, Nat.reduceEqDiff, reduceCtorEq, b89_C1]) | (refine AM.opW_untied (by kernel_rfl) ?_; simp (disch := first | omega | (simp only [AM.DB, List.length_set, List.length_map]; done) | (simp only [AM.DB, List.length_set, List.length_map]; omega)) only [AM.RB, Nat.reduceAdd, Nat.reduceMul, Nat.reduceEqDiff, reduceCtorEq, b89_C1]) | (refine AM.build_w ?_; simp (disch := first | omega | (simp only [AM.DB, List.length_set, List.length_map]; done) | (simp only [AM.DB, List.length_set, List.length_map]; omega)) only [AM.RB, Nat.reduceAdd, Nat.reduceMul, Nat.reduceEqDiff, reduceCtorEq, b89_C1])))
  exact hq
theorem compare_w (a b : Int) (h : AHeap) (Q : VQ) (hq : Q (.int .i64 (cmpI a b)) h) : W 76 [.int .i64 a, .int .i64 b] h Q := by
  refine AM.enter hp (fn := Try.f76) (rs := [.tmp 4]) (nt := 20) (by kernel_rfl) Try.func76 rfl rfl rfl (by kernel_rfl) ?_
  simp (disch := first | omega | (simp only [AM.DB, List.length_set, List.length_map]; done) | (simp only [AM.DB, List.length_set, List.length_map]; omega)) only [AM.RB, Nat.reduceAdd, Nat.reduceMul, Nat.reduceEqDiff, reduceCtorEq, b76_C1]
  refine isNaN_w _ _ _ ?_
  simp (disch := first | omega | (simp only [AM.DB, List.length_set, List.length_map]; done) | (simp only [AM.DB, List.length_set, List.length_map]; omega)) only [AM.RB, Nat.reduceAdd, Nat.reduceMul, Nat.reduceEqDiff, reduceCtorEq, b76_C1]
  refine isNaN_w _ _ _ ?_
  (first | (simp (disch := first | omega | (simp only [AM.DB, List.length_set, List.length_map]; done) | (simp only [AM.DB, List.length_set, List.length_map]; omega)) only [AM.RB, Nat.reduceAdd, Nat.reduceMul, Nat.reduceEqDiff, reduceCtorEq, b76_C1]) | skip); (repeat' (first | (refine AM.guard_spl ?_ ?_ <;> (intro hd hp_; simp (disch := first | omega | (simp only [AM.DB, List.length_set, List.length_map]; done) | (simp only [AM.DB, List.length_set, List.length_map]; omega)) only [AM.RB, Nat.reduceAdd, Nat.reduceMul, Nat.reduceEqDiff, reduceCtorEq, b76_C1, hd])) | (refine AM.cond_spl ?_ ?_ <;> (intro hd hp_; simp (disch := first | omega | (simp only [AM.DB, List.length_set, List.length_map]; done) | (simp only [AM.DB, List.length_set, List.length_map]; omega)) only [AM.RB, Nat.reduceAdd, Nat.reduceMul, Nat.reduceEqDiff, reduceCtorEq, b76_C1, hd])) | (refine AM.guard_b ?_ ?_ <;> (intro hd hp_; simp (disch := first | omega | (simp only [AM.DB, List.length_set, List.length_map]; done) | (simp only [AM.DB, List.length_set, List.length_map]; omega)) only [AM.RB, Nat.reduceAdd, Nat.reduceMul, Nat.reduceEqDiff, reduceCtorEq, b76_C1, hd])) | (refine AM.cond_b ?_ ?_ <;> (intro hd hp_; simp (disch := first | omega | (simp only [AM.DB, List.length_set, List.length_map]; done) | (simp only [AM.DB, List.length_set, List.length_map]; omega)) only [AM.RB, Nat.reduceAdd, Nat.reduceMul, Nat.reduceEqDiff, reduceCtorEq, b76_C1, hd])) | (refine AM.drawW_fine hp (by kernel_rfl) (by kernel_rfl) ?_; simp (disch := first | omega | (simp only [AM.DB, List.length_set, List.length_map]; done) | (simp only [AM.DB, List.length_set, List.length_map]; omega)) only [AM.RB, Nat.reduceAdd, Nat.reduceMul, Nat.reduceEqDiff, reduceCtorEq, b76_C1]) | (refine AM.opW_tied (by kernel_rfl) ?_; simp (disch := first | omega | (simp only [AM.DB, List.length_set, List.length_map]; done) | (simp only [AM.DB, List.length_set, List.length_map]; omega)) only [AM.RB, Nat.reduceAdd, Nat.reduceMul, Nat.reduceEqDiff, reduceCtorEq, b76_C1]) | (refine AM.opW_untied (by kernel_rfl) ?_; simp (disch := first | omega | (simp only [AM.DB, List.length_set, List.length_map]; done) | (simp only [AM.DB, List.length_set, List.length_map]; omega)) only [AM.RB, Nat.reduceAdd, Nat.reduceMul, Nat.reduceEqDiff, reduceCtorEq, b76_C1]) | (refine AM.build_w ?_; simp (disch := first | omega | (simp only [AM.DB, List.length_set, List.length_map]; done) | (simp only [AM.DB, List.length_set, List.length_map]; omega)) only [AM.RB, Nat.reduceAdd, Nat.reduceMul, Nat.reduceEqDiff, reduceCtorEq, b76_C1])))
  all_goals (unfold cmpI at hq; simpa [*] using hq)
theorem known_w (x : Int) (h : AHeap) (Q : VQ) (hq : Q (.bool (decide (0 ≤ x ∧ x < 1024))) h) : W 51 [.int .i64 x] h Q := by
  refine AM.enter hp (fn := Try.f51) (rs := [.tmp 2]) (nt := 9) (by kernel_rfl) Try.func51 rfl rfl rfl (by kernel_rfl) ?_
  (first | (simp (disch := first | omega | (simp only [AM.DB, List.length_set, List.length_map]; done) | (simp only [AM.DB, List.length_set, List.length_map]; omega)) only [AM.RB, Nat.reduceAdd, Nat.reduceMul, Nat.reduceEqDiff, reduceCtorEq, b51_C1]) | skip); (repeat' (first | (refine AM.guard_spl ?_ ?_ <;> (intro hd hp_; simp (disch := first | omega | (simp only [AM.DB, List.length_set, List.length_map]; done) | (simp only [AM.DB, List.length_set, List.length_map]; omega)) only [AM.RB, Nat.reduceAdd, Nat.reduceMul, Nat.reduceEqDiff, reduceCtorEq, b51_C1, hd])) | (refine AM.cond_spl ?_ ?_ <;> (intro hd hp_; simp (disch := first | omega | (simp only [AM.DB, List.length_set, List.length_map]; done) | (simp only [AM.DB, List.length_set, List.length_map]; omega)) only [AM.RB, Nat.reduceAdd, Nat.reduceMul, Nat.reduceEqDiff, reduceCtorEq, b51_C1, hd])) | (refine AM.guard_b ?_ ?_ <;> (intro hd hp_; simp (disch := first | omega | (simp only [AM.DB, List.length_set, List.length_map]; done) | (simp only [AM.DB, List.length_set, List.length_map]; omega)) only [AM.RB, Nat.reduceAdd, Nat.reduceMul, Nat.reduceEqDiff, reduceCtorEq, b51_C1, hd])) | (refine AM.cond_b ?_ ?_ <;> (intro hd hp_; simp (disch := first | omega | (simp only [AM.DB, List.length_set, List.length_map]; done) | (simp only [AM.DB, List.length_set, List.length_map]; omega)) only [AM.RB, Nat.reduceAdd, Nat.reduceMul, Nat.reduceEqDiff, reduceCtorEq, b51_C1, hd])) | (refine AM.drawW_fine hp (by kernel_rfl) (by kernel_rfl) ?_; simp (disch := first | omega | (simp only [AM.DB, List.length_set, List.length_map]; done) | (simp only [AM.DB, List.length_set, List.length_map]; omega)) only [AM.RB, Nat.reduceAdd, Nat.reduceMul, Nat.reduceEqDiff, reduceCtorEq, b51_C1]) | (refine AM.opW_tied (by kernel_rfl) ?_; simp (disch := first | omega | (simp only [AM.DB, List.length_set, List.length_map]; done) | (simp only [AM.DB, List.length_set, List.length_map]; omega)) only [AM.RB, Nat.reduceAdd, Nat.reduceMul, Nat.reduceEqDiff, reduceCtorEq, b51_C1]) | (refine AM.opW_untied (by kernel_rfl) ?_; simp (disch := first | omega | (simp only [AM.DB, List.length_set, List.length_map]; done) | (simp only [AM.DB, List.length_set, List.length_map]; omega)) only [AM.RB, Nat.reduceAdd, Nat.reduceMul, Nat.reduceEqDiff, reduceCtorEq, b51_C1]) | (refine AM.build_w ?_; simp (disch := first | omega | (simp only [AM.DB, List.length_set, List.length_map]; done) | (simp only [AM.DB, List.length_set, List.length_map]; omega)) only [AM.RB, Nat.reduceAdd, Nat.reduceMul, Nat.reduceEqDiff, reduceCtorEq, b51_C1])))
  all_goals (simpa [*] using hq)
theorem find1_w (c : Cm) (x : Int) (h : AHeap) (Q : VQ) (hq : ∀ h', Fr none' h h' → Q (.int .i64 (cmpI c.1 x)) h') : W 75 [.agg (encC c).toArray, .int .i64 x] h Q := by
  refine AM.enter hp (fn := Try.f75) (rs := [.tmp 4]) (nt := 9) (by kernel_rfl) Try.func75 rfl rfl rfl (by kernel_rfl) ?_
  (first | (simp (disch := first | omega | (simp only [AM.DB, List.length_set, List.length_map]; done) | (simp only [AM.DB, List.length_set, List.length_map]; omega)) only [AM.RB, Nat.reduceAdd, Nat.reduceMul, Nat.reduceEqDiff, reduceCtorEq, b75_C1, encC]) | skip); (repeat' (first | (refine AM.drawW_fine hp (by kernel_rfl) (by kernel_rfl) ?_; simp (disch := first | omega | (simp only [AM.DB, List.length_set, List.length_map]; done) | (simp only [AM.DB, List.length_set, List.length_map]; omega)) only [AM.RB, Nat.reduceAdd, Nat.reduceMul, Nat.reduceEqDiff, reduceCtorEq, b75_C1, encC]) | (refine AM.opW_tied (by kernel_rfl) ?_; simp (disch := first | omega | (simp only [AM.DB, List.length_set, List.length_map]; done) | (simp only [AM.DB, List.length_set, List.length_map]; omega)) only [AM.RB, Nat.reduceAdd, Nat.reduceMul, Nat.reduceEqDiff, reduceCtorEq, b75_C1, encC]) | (refine AM.opW_untied (by kernel_rfl) ?_; simp (disch := first | omega | (simp only [AM.DB, List.length_set, List.length_map]; done) | (simp only [AM.DB, List.length_set, List.length_map]; omega)) only [AM.RB, Nat.reduceAdd, Nat.reduceMul, Nat.reduceEqDiff, reduceCtorEq, b75_C1, encC]) | (refine AM.build_w ?_; simp (disch := first | omega | (simp only [AM.DB, List.length_set, List.length_map]; done) | (simp only [AM.DB, List.length_set, List.length_map]; omega)) only [AM.RB, Nat.reduceAdd, Nat.reduceMul, Nat.reduceEqDiff, reduceCtorEq, b75_C1, encC])))
  refine compare_w _ _ _ _ ?_
  (first | (simp (disch := first | omega | (simp only [AM.DB, List.length_set, List.length_map]; done) | (simp only [AM.DB, List.length_set, List.length_map]; omega)) only [AM.RB, Nat.reduceAdd, Nat.reduceMul, Nat.reduceEqDiff, reduceCtorEq, b75_C1]) | skip); (repeat' (first | (refine AM.drawW_fine hp (by kernel_rfl) (by kernel_rfl) ?_; simp (disch := first | omega | (simp only [AM.DB, List.length_set, List.length_map]; done) | (simp only [AM.DB, List.length_set, List.length_map]; omega)) only [AM.RB, Nat.reduceAdd, Nat.reduceMul, Nat.reduceEqDiff, reduceCtorEq, b75_C1]) | (refine AM.opW_tied (by kernel_rfl) ?_; simp (disch := first | omega | (simp only [AM.DB, List.length_set, List.length_map]; done) | (simp only [AM.DB, List.length_set, List.length_map]; omega)) only [AM.RB, Nat.reduceAdd, Nat.reduceMul, Nat.reduceEqDiff, reduceCtorEq, b75_C1]) | (refine AM.opW_untied (by kernel_rfl) ?_; simp (disch := first | omega | (simp only [AM.DB, List.length_set, List.length_map]; done) | (simp only [AM.DB, List.length_set, List.length_map]; omega)) only [AM.RB, Nat.reduceAdd, Nat.reduceMul, Nat.reduceEqDiff, reduceCtorEq, b75_C1]) | (refine AM.build_w ?_; simp (disch := first | omega | (simp only [AM.DB, List.length_set, List.length_map]; done) | (simp only [AM.DB, List.length_set, List.length_map]; omega)) only [AM.RB, Nat.reduceAdd, Nat.reduceMul, Nat.reduceEqDiff, reduceCtorEq, b75_C1])))
  exact hq _ ((Fr.refl _ _).alloc _)

theorem bs_w {s : Value} {L : List Cm} {n : Nat} {x : Int} {h : AHeap} (hs : Rd h 45 2 s n (L.flatMap encC)) (hln : L.length = n) (hn : n ≤ 4000000000) (hsrt : Srt L) {Q : VQ}
    (hq : ∀ h', Fr none' h h' → Q (.tuple #[.int .i64 (posC L x), .bool (hasC L x)]) h') : W 74 [s, .int .i64 x, (.func (.func 75) #[] #[])] h Q := by
  obtain ⟨a, cap, rfl⟩ := hs.form
  refine AM.enter hp (fn := Try.f74) (rs := [.tmp 6, .tmp 7]) (nt := 49) (by kernel_rfl) Try.func74 rfl rfl rfl (by kernel_rfl) ?_
  (first | (simp (disch := first | omega | (simp only [AM.DB, List.length_set, List.length_map]; done) | (simp only [AM.DB, List.length_set, List.length_map]; omega)) only [AM.RB, Nat.reduceAdd, Nat.reduceMul, Nat.reduceEqDiff, reduceCtorEq, b74_C1]) | skip); (repeat' (first | (refine AM.drawW_fine hp (by kernel_rfl) (by kernel_rfl) ?_; simp (disch := first | omega | (simp only [AM.DB, List.length_set, List.length_map]; done) | (simp only [AM.DB, List.length_set, List.length_map]; omega)) only [AM.RB, Nat.reduceAdd, Nat.reduceMul, Nat.reduceEqDiff, reduceCtorEq, b74_C1]) | (refine AM.opW_tied (by kernel_rfl) ?_; simp (disch := first | omega | (simp only [AM.DB, List.length_set, List.length_map]; done) | (simp only [AM.DB, List.length_set, List.length_map]; omega)) only [AM.RB, Nat.reduceAdd, Nat.reduceMul, Nat.reduceEqDiff, reduceCtorEq, b74_C1]) | (refine AM.opW_untied (by kernel_rfl) ?_; simp (disch := first | omega | (simp only [AM.DB, List.length_set, List.length_map]; done) | (simp only [AM.DB, List.length_set, List.length_map]; omega)) only [AM.RB, Nat.reduceAdd, Nat.reduceMul, Nat.reduceEqDiff, reduceCtorEq, b74_C1]) | (refine AM.build_w ?_; simp (disch := first | omega | (simp only [AM.DB, List.length_set, List.length_map]; done) | (simp only [AM.DB, List.length_set, List.length_map]; omega)) only [AM.RB, Nat.reduceAdd, Nat.reduceMul, Nat.reduceEqDiff, reduceCtorEq, b74_C1])))
  refine AM.loop_w hp 49 (fun q : Nat × Nat => [(0, .slice a n cap), (1, .int .i64 x), (2, (.func (.func 75) #[] #[])), (8, .int .i64 n), (9, .int .i64 q.1), (10, .int .i64 q.2)])
    (fun q h' => q.1 ≤ q.2 ∧ q.2 ≤ n ∧ Fr none' h h' ∧ (∀ k, k < q.1 → (L.getD k d0).1 < x) ∧ (∀ k, q.2 ≤ k → k < L.length → x ≤ (L.getD k d0).1)) (fun q => q.2 - q.1) (by kernel_rfl) (0, n) ?_ ?_ ?_
  · simp (disch := first | omega | (simp only [AM.DB, List.length_set, List.length_map]; done) | (simp only [AM.DB, List.length_set, List.length_map]; omega)) only [AM.RB, Nat.reduceAdd, Nat.reduceMul, Nat.reduceEqDiff, reduceCtorEq, b74_C1]
  · exact ⟨Nat.zero_le _, Nat.le_refl _, Fr.refl _ _, fun k hk => by omega, fun k h1 h2 => by omega⟩
  rintro ⟨i, j⟩ h1 ρ ⟨hij, hjn, fr, hlo, hhi⟩
  simp only at hij hjn hlo hhi ⊢
  have hs1 := hs.fr0 fr
  (first | (simp (disch := first | omega | (simp only [AM.DB, List.length_set, List.length_map]; done) | (simp only [AM.DB, List.length_set, List.length_map]; omega)) only [AM.RB, Nat.reduceAdd, Nat.reduceMul, Nat.reduceEqDiff, reduceCtorEq, b74_C1]) | skip); (repeat' (first | (refine AM.drawW_fine hp (by kernel_rfl) (by kernel_rfl) ?_; simp (disch := first | omega | (simp only [AM.DB, List.length_set, List.length_map]; done) | (simp only [AM.DB, List.length_set, List.length_map]; omega)) only [AM.RB, Nat.reduceAdd, Nat.reduceMul, Nat.reduceEqDiff, reduceCtorEq, b74_C1]) | (refine AM.opW_tied (by kernel_rfl) ?_; simp (disch := first | omega | (simp only [AM.DB, List.length_set, List.length_map]; done) | (simp only [AM.DB, List.length_set, List.length_map]; omega)) only [AM.RB, Nat.reduceAdd, Nat.reduceMul, Nat.reduceEqDiff, reduceCtorEq, b74_C1]) | (refine AM.opW_untied (by kernel_rfl) ?_; simp (disch := first | omega | (simp only [AM.DB, List.length_set, List.length_map]; done) | (simp only [AM.DB, List.length_set, List.length_map]; omega)) only [AM.RB, Nat.reduceAdd, Nat.reduceMul, Nat.reduceEqDiff, reduceCtorEq, b74_C1]) | (refine AM.build_w ?_; simp (disch := first | omega | (simp only [AM.DB, List.length_set, List.length_map]; done) | (simp only [AM.DB, List.length_set, List.length_map]; omega)) only [AM.RB, Nat.reduceAdd, Nat.reduceMul, Nat.reduceEqDiff, reduceCtorEq, b74_C1])))
  refine AM.condV_split (fun hlt => ?_) (fun hlt => ?_)
  · have e1 : IntKind.i64.wrap (Int.fdiv (IntKind.u64.wrap (IntKind.i64.wrap ((i : Int) + (j : Int)))) (2 ^ min (Int.toNat 1) IntKind.u64.bits)) = (((i + j) / 2 : Nat) : Int) := by
      rw [AM.wrap_i64 (n := (i : Int) + j) (by omega) (by omega), AM.wrap_u64 (by omega) (by omega)]
      have : (2 : Int) ^ min (Int.toNat 1) IntKind.u64.bits = 2 := by decide
      rw [this, Int.fdiv_eq_ediv_of_nonneg _ (by omega), AM.wrap_i64 (by omega) (by omega)]
      omega
    have hm : (i + j) / 2 < n := by omega
    generalize hme : (i + j) / 2 = m at *
    (first | (simp (disch := first | omega | (simp only [AM.DB, List.length_set, List.length_map]; done) | (simp only [AM.DB, List.length_set, List.length_map]; omega)) only [AM.RB, Nat.reduceAdd, Nat.reduceMul, Nat.reduceEqDiff, reduceCtorEq, b74_C1, AM.bin_shr, e1, hs1.ia el_31, hs1.lds encC_len lk_45 hln d0, Int.toNat_natCast]) | skip); (repeat' (first | (refine AM.drawW_fine hp (by kernel_rfl) (by kernel_rfl) ?_; simp (disch := first | omega | (simp only [AM.DB, List.length_set, List.length_map]; done) | (simp only [AM.DB, List.length_set, List.length_map]; omega)) only [AM.RB, Nat.reduceAdd, Nat.reduceMul, Nat.reduceEqDiff, reduceCtorEq, b74_C1, AM.bin_shr, e1, hs1.ia el_31, hs1.lds encC_len lk_45 hln d0, Int.toNat_natCast]) | (refine AM.opW_tied (by kernel_rfl) ?_; simp (disch := first | omega | (simp only [AM.DB, List.length_set, List.length_map]; done) | (simp only [AM.DB, List.length_set, List.length_map]; omega)) only [AM.RB, Nat.reduceAdd, Nat.reduceMul, Nat.reduceEqDiff, reduceCtorEq, b74_C1, AM.bin_shr, e1, hs1.ia el_31, hs1.lds encC_len lk_45 hln d0, Int.toNat_natCast]) | (refine AM.opW_untied (by kernel_rfl) ?_; simp (disch := first | omega | (simp only [AM.DB, List.length_set, List.length_map]; done) | (simp only [AM.DB, List.length_set, List.length_map]; omega)) only [AM.RB, Nat.reduceAdd, Nat.reduceMul, Nat.reduceEqDiff, reduceCtorEq, b74_C1, AM.bin_shr, e1, hs1.ia el_31, hs1.lds encC_len lk_45 hln d0, Int.toNat_natCast]) | (refine AM.build_w ?_; simp (disch := first | omega | (simp only [AM.DB, List.length_set, List.length_map]; done) | (simp only [AM.DB, List.length_set, List.length_map]; omega)) only [AM.RB, Nat.reduceAdd, Nat.reduceMul, Nat.reduceEqDiff, reduceCtorEq, b74_C1, AM.bin_shr, e1, hs1.ia el_31, hs1.lds encC_len lk_45 hln d0, Int.toNat_natCast])))
    refine find1_w (L.getD m d0) x _ _ fun h2 fr2 => ?_
    (first | (simp (disch := first | omega | (simp only [AM.DB, List.length_set, List.length_map]; done) | (simp only [AM.DB, List.length_set, List.length_map]; omega)) only [AM.RB, Nat.reduceAdd, Nat.reduceMul, Nat.reduceEqDiff, reduceCtorEq, b74_C1]) | skip); (repeat' (first | (refine AM.guard_spl ?_ ?_ <;> (intro hd hp_; simp (disch := first | omega | (simp only [AM.DB, List.length_set, List.length_map]; done) | (simp only [AM.DB, List.length_set, List.length_map]; omega)) only [AM.RB, Nat.reduceAdd, Nat.reduceMul, Nat.reduceEqDiff, reduceCtorEq, b74_C1, hd])) | (refine AM.cond_spl ?_ ?_ <;> (intro hd hp_; simp (disch := first | omega | (simp only [AM.DB, List.length_set, List.length_map]; done) | (simp only [AM.DB, List.length_set, List.length_map]; omega)) only [AM.RB, Nat.reduceAdd, Nat.reduceMul, Nat.reduceEqDiff, reduceCtorEq, b74_C1, hd])) | (refine AM.guard_b ?_ ?_ <;> (intro hd hp_; simp (disch := first | omega | (simp only [AM.DB, List.length_set, List.length_map]; done) | (simp only [AM.DB, List.length_set, List.length_map]; omega)) only [AM.RB, Nat.reduceAdd, Nat.reduceMul, Nat.reduceEqDiff, reduceCtorEq, b74_C1, hd])) | (refine AM.cond_b ?_ ?_ <;> (intro hd hp_; simp (disch := first | omega | (simp only [AM.DB, List.length_set, List.length_map]; done) | (simp only [AM.DB, List.length_set, List.length_map]; omega)) only [AM.RB, Nat.reduceAdd, Nat.reduceMul, Nat.reduceEqDiff, reduceCtorEq, b74_C1, hd])) | (refine AM.drawW_fine hp (by kernel_rfl) (by kernel_rfl) ?_; simp (disch := first | omega | (simp only [AM.DB, List.length_set, List.length_map]; done) | (simp only [AM.DB, List.length_set, List.length_map]; omega)) only [AM.RB, Nat.reduceAdd, Nat.reduceMul, Nat.reduceEqDiff, reduceCtorEq, b74_C1]) | (refine AM.opW_tied (by kernel_rfl) ?_; simp (disch := first | omega | (simp only [AM.DB, List.length_set, List.length_map]; done) | (simp only [AM.DB, List.length_set, List.length_map]; omega)) only [AM.RB, Nat.reduceAdd, Nat.reduceMul, Nat.reduceEqDiff, reduceCtorEq, b74_C1]) | (refine AM.opW_untied (by kernel_rfl) ?_; simp (disch := first | omega | (simp only [AM.DB, List.length_set, List.length_map]; done) | (simp only [AM.DB, List.length_set, List.length_map]; omega)) only [AM.RB, Nat.reduceAdd, Nat.reduceMul, Nat.reduceEqDiff, reduceCtorEq, b74_C1]) | (refine AM.build_w ?_; simp (disch := first | omega | (simp only [AM.DB, List.length_set, List.length_map]; done) | (simp only [AM.DB, List.length_set, List.length_map]; omega)) only [AM.RB, Nat.reduceAdd, Nat.reduceMul, Nat.reduceEqDiff, reduceCtorEq, b74_C1])))
    · refine ⟨(m + 1, j), by simp only; omega, ?_, by simp only; omega, hjn, fr.trans fr2, fun k hk => ?_, hhi⟩
      · simp only
        rw [AM.wrap_i64 (by omega) (by omega)]; simp
      · simp only at hk
        have := hsrt.le (show k ≤ m by omega) (by omega)
        rw [cmpI_lt] at hp_
        omega
    · refine ⟨(i, m), by simp only; omega, ?_, by simp only; omega, by simp only; omega, fr.trans fr2, hlo, fun k hk hk2 => ?_⟩
      · exact ⟨rfl, rfl⟩
      · simp only at hk
        have := hsrt.le hk hk2
        rw [cmpI_lt] at hp_
        omega
  · have hp := posC_split L x i (by omega) hlo (fun k hk hk2 => hhi k (by omega) hk2)
    have hh := hasC_at hsrt x i hlo (fun k hk hk2 => hhi k (by omega) hk2)
    rw [hp, hh] at hq
    (first | (simp (disch := first | omega | (simp only [AM.DB, List.length_set, List.length_map]; done) | (simp only [AM.DB, List.length_set, List.length_map]; omega)) only [AM.RB, Nat.reduceAdd, Nat.reduceMul, Nat.reduceEqDiff, reduceCtorEq, b74_C1, hs1.ia el_31, hs1.lds encC_len lk_45 hln d0, Int.toNat_natCast]) | skip); (repeat' (first | (refine AM.guard_spl ?_ ?_ <;> (intro hd hp_; simp (disch := first | omega | (simp only [AM.DB, List.length_set, List.length_map]; done) | (simp only [AM.DB, List.length_set, List.length_map]; omega)) only [AM.RB, Nat.reduceAdd, Nat.reduceMul, Nat.reduceEqDiff, reduceCtorEq, b74_C1, hd, hs1.ia el_31, hs1.lds encC_len lk_45 hln d0, Int.toNat_natCast])) | (refine AM.cond_spl ?_ ?_ <;> (intro hd hp_; simp (disch := first | omega | (simp only [AM.DB, List.length_set, List.length_map]; done) | (simp only [AM.DB, List.length_set, List.length_map]; omega)) only [AM.RB, Nat.reduceAdd, Nat.reduceMul, Nat.reduceEqDiff, reduceCtorEq, b74_C1, hd, hs1.ia el_31, hs1.lds encC_len lk_45 hln d0, Int.toNat_natCast])) | (refine AM.guard_b ?_ ?_ <;> (intro hd hp_; simp (disch := first | omega | (simp only [AM.DB, List.length_set, List.length_map]; done) | (simp only [AM.DB, List.length_set, List.length_map]; omega)) only [AM.RB, Nat.reduceAdd, Nat.reduceMul, Nat.reduceEqDiff, reduceCtorEq, b74_C1, hd, hs1.ia el_31, hs1.lds encC_len lk_45 hln d0, Int.toNat_natCast])) | (refine AM.cond_b ?_ ?_ <;> (intro hd hp_; simp (disch := first | omega | (simp only [AM.DB, List.length_set, List.length_map]; done) | (simp only [AM.DB, List.length_set, List.length_map]; omega)) only [AM.RB, Nat.reduceAdd, Nat.reduceMul, Nat.reduceEqDiff, reduceCtorEq, b74_C1, hd, hs1.ia el_31, hs1.lds encC_len lk_45 hln d0, Int.toNat_natCast])) | (refine AM.drawW_fine hp (by kernel_rfl) (by kernel_rfl) ?_; simp (disch := first | omega | (simp only [AM.DB, List.length_set, List.length_map]; done) | (simp only [AM.DB, List.length_set, List.length_map]; omega)) only [AM.RB, Nat.reduceAdd, Nat.reduceMul, Nat.reduceEqDiff, reduceCtorEq, b74_C1, hs1.ia el_31, hs1.lds encC_len lk_45 hln d0, Int.toNat_natCast]) | (refine AM.opW_tied (by kernel_rfl) ?_; simp (disch := first | omega | (simp only [AM.DB, List.length_set, List.length_map]; done) | (simp only [AM.DB, List.length_set, List.length_map]; omega)) only [AM.RB, Nat.reduceAdd, Nat.reduceMul, Nat.reduceEqDiff, reduceCtorEq, b74_C1, hs1.ia el_31, hs1.lds encC_len lk_45 hln d0, Int.toNat_natCast]) | (refine AM.opW_untied (by kernel_rfl) ?_; simp (disch := first | omega | (simp only [AM.DB, List.length_set, List.length_map]; done) | (simp only [AM.DB, List.length_set, List.length_map]; omega)) only [AM.RB, Nat.reduceAdd, Nat.reduceMul, Nat.reduceEqDiff, reduceCtorEq, b74_C1, hs1.ia el_31, hs1.lds encC_len lk_45 hln d0, Int.toNat_natCast]) | (refine AM.build_w ?_; simp (disch := first | omega | (simp only [AM.DB, List.length_set, List.length_map]; done) | (simp only [AM.DB, List.length_set, List.length_map]; omega)) only [AM.RB, Nat.reduceAdd, Nat.reduceMul, Nat.reduceEqDiff, reduceCtorEq, b74_C1, hs1.ia el_31, hs1.lds encC_len lk_45 hln d0, Int.toNat_natCast])))
    · refine find1_w (L.getD i d0) x _ _ fun h2 fr2 => ?_
      (first | (simp (disch := first | omega | (simp only [AM.DB, List.length_set, List.length_map]; done) | (simp only [AM.DB, List.length_set, List.length_map]; omega)) only [AM.RB, Nat.reduceAdd, Nat.reduceMul, Nat.reduceEqDiff, reduceCtorEq, b74_C1]) | skip); (repeat' (first | (refine AM.guard_spl ?_ ?_ <;> (intro hd hp_; simp (disch := first | omega | (simp only [AM.DB, List.length_set, List.length_map]; done) | (simp only [AM.DB, List.length_set, List.length_map]; omega)) only [AM.RB, Nat.reduceAdd, Nat.reduceMul, Nat.reduceEqDiff, reduceCtorEq, b74_C1, hd])) | (refine AM.cond_spl ?_ ?_ <;> (intro hd hp_; simp (disch := first | omega | (simp only [AM.DB, List.length_set, List.length_map]; done) | (simp only [AM.DB, List.length_set, List.length_map]; omega)) only [AM.RB, Nat.reduceAdd, Nat.reduceMul, Nat.reduceEqDiff, reduceCtorEq, b74_C1, hd])) | (refine AM.guard_b ?_ ?_ <;> (intro hd hp_; simp (disch := first | omega | (simp only [AM.DB, List.length_set, List.length_map]; done) | (simp only [AM.DB, List.length_set, List.length_map]; omega)) only [AM.RB, Nat.reduceAdd, Nat.reduceMul, Nat.reduceEqDiff, reduceCtorEq, b74_C1, hd])) | (refine AM.cond_b ?_ ?_ <;> (intro hd hp_; simp (disch := first | omega | (simp only [AM.DB, List.length_set, List.length_map]; done) | (simp only [AM.DB, List.length_set, List.length_map]; omega)) only [AM.RB, Nat.reduceAdd, Nat.reduceMul, Nat.reduceEqDiff, reduceCtorEq, b74_C1, hd])) | (refine AM.drawW_fine hp (by kernel_rfl) (by kernel_rfl) ?_; simp (disch := first | omega | (simp only [AM.DB, List.length_set, List.length_map]; done) | (simp only [AM.DB, List.length_set, List.length_map]; omega)) only [AM.RB, Nat.reduceAdd, Nat.reduceMul, Nat.reduceEqDiff, reduceCtorEq, b74_C1]) | (refine AM.opW_tied (by kernel_rfl) ?_; simp (disch := first | omega | (simp only [AM.DB, List.length_set, List.length_map]; done) | (simp only [AM.DB, List.length_set, List.length_map]; omega)) only [AM.RB, Nat.reduceAdd, Nat.reduceMul, Nat.reduceEqDiff, reduceCtorEq, b74_C1]) | (refine AM.opW_untied (by kernel_rfl) ?_; simp (disch := first | omega | (simp only [AM.DB, List.length_set, List.length_map]; done) | (simp only [AM.DB, List.length_set, List.length_map]; omega)) only [AM.RB, Nat.reduceAdd, Nat.reduceMul, Nat.reduceEqDiff, reduceCtorEq, b74_C1]) | (refine AM.build_w ?_; simp (disch := first | omega | (simp only [AM.DB, List.length_set, List.length_map]; done) | (simp only [AM.DB, List.length_set, List.length_map]; omega)) only [AM.RB, Nat.reduceAdd, Nat.reduceMul, Nat.reduceEqDiff, reduceCtorEq, b74_C1])))
      have e : (decide (i < L.length) && decide ((L.getD i d0).1 = x)) = decide (cmpI (L.getD i d0).1 x = 0) := by
        rw [decide_eq_true (show i < L.length by omega), Bool.true_and]
        exact decide_eq_decide.2 (cmpI_eq _ _).symm
      rw [e] at hq
      exact hq _ (fr.trans fr2)
    · have e : (decide (i < L.length) && decide ((L.getD i d0).1 = x)) = false := by
        rw [decide_eq_false (show ¬ i < L.length by omega), Bool.false_and]
      rw [e] at hq
      exact hq _ fr

/-! ### A robot's claims -/
/-- What an object of claims holds. -/
def Cl (h : AHeap) (p : Nat) (v : Value) (L : List Cm) : Prop := h.get p = some (.cells [v] 37 false) ∧ Ow h 45 2 v L.length (L.flatMap encC) ∧ capPos v ∧ h.low ≤ p ∧ ¬ idOf v p
abbrev pv (p : Nat) : Value := .pointer (some ⟨p, 0, none⟩)
theorem Cl.fr {h h' : AHeap} {p : Nat} {v : Value} {L : List Cm} {S : Nat → Prop} (c : Cl h p v L) (fr : Fr S h h') (h1 : ¬ S p) (h2 : ∀ id, idOf v id → ¬ S id) : Cl h' p v L :=
  ⟨fr.get c.1 h1, c.2.1.fr fr h2, c.2.2.1, by rw [fr.low]; exact c.2.2.2.1, c.2.2.2.2⟩
theorem Cl.fr0 {h h' : AHeap} {p : Nat} {v : Value} {L : List Cm} (c : Cl h p v L) (fr : Fr none' h h') : Cl h' p v L := c.fr fr (fun q => q) (fun _ _ q => q)

theorem find_w {p : Nat} {v : Value} {L : List Cm} {x : Int} {h : AHeap} (hc : Cl h p v L) (hsrt : Srt L) (hn : L.length ≤ 4000000000) {Q : VQ}
    (hq : ∀ h', Fr none' h h' → Q (.tuple #[.int .i64 (posC L x), .bool (hasC L x)]) h') : W 52 [pv p, .int .i64 x] h Q := by
  have hg := hc.1
  refine AM.enter hp (fn := Try.f52) (rs := [.tmp 4, .tmp 5]) (nt := 16) (by kernel_rfl) Try.func52 rfl rfl rfl (by kernel_rfl) ?_
  (first | (simp (disch := first | omega | (simp only [AM.DB, List.length_set, List.length_map]; done) | (simp only [AM.DB, List.length_set, List.length_map]; omega)) only [AM.RB, Nat.reduceAdd, Nat.reduceMul, Nat.reduceEqDiff, reduceCtorEq, b52_C1, hg]) | skip); (repeat' (first | (refine AM.drawW_fine hp (by kernel_rfl) (by kernel_rfl) ?_; simp (disch := first | omega | (simp only [AM.DB, List.length_set, List.length_map]; done) | (simp only [AM.DB, List.length_set, List.length_map]; omega)) only [AM.RB, Nat.reduceAdd, Nat.reduceMul, Nat.reduceEqDiff, reduceCtorEq, b52_C1, hg]) | (refine AM.opW_tied (by kernel_rfl) ?_; simp (disch := first | omega | (simp only [AM.DB, List.length_set, List.length_map]; done) | (simp only [AM.DB, List.length_set, List.length_map]; omega)) only [AM.RB, Nat.reduceAdd, Nat.reduceMul, Nat.reduceEqDiff, reduceCtorEq, b52_C1, hg]) | (refine AM.opW_untied (by kernel_rfl) ?_; simp (disch := first | omega | (simp only [AM.DB, List.length_set, List.length_map]; done) | (simp only [AM.DB, List.length_set, List.length_map]; omega)) only [AM.RB, Nat.reduceAdd, Nat.reduceMul, Nat.reduceEqDiff, reduceCtorEq, b52_C1, hg]) | (refine AM.build_w ?_; simp (disch := first | omega | (simp only [AM.DB, List.length_set, List.length_map]; done) | (simp only [AM.DB, List.length_set, List.length_map]; omega)) only [AM.RB, Nat.reduceAdd, Nat.reduceMul, Nat.reduceEqDiff, reduceCtorEq, b52_C1, hg])))
  refine bs_w hc.2.1.rd rfl hn hsrt fun h1 fr1 => ?_
  (first | (simp (disch := first | omega | (simp only [AM.DB, List.length_set, List.length_map]; done) | (simp only [AM.DB, List.length_set, List.length_map]; omega)) only [AM.RB, Nat.reduceAdd, Nat.reduceMul, Nat.reduceEqDiff, reduceCtorEq, b52_C1]) | skip); (repeat' (first | (refine AM.drawW_fine hp (by kernel_rfl) (by kernel_rfl) ?_; simp (disch := first | omega | (simp only [AM.DB, List.length_set, List.length_map]; done) | (simp only [AM.DB, List.length_set, List.length_map]; omega)) only [AM.RB, Nat.reduceAdd, Nat.reduceMul, Nat.reduceEqDiff, reduceCtorEq, b52_C1]) | (refine AM.opW_tied (by kernel_rfl) ?_; simp (disch := first | omega | (simp only [AM.DB, List.length_set, List.length_map]; done) | (simp only [AM.DB, List.length_set, List.length_map]; omega)) only [AM.RB, Nat.reduceAdd, Nat.reduceMul, Nat.reduceEqDiff, reduceCtorEq, b52_C1]) | (refine AM.opW_untied (by kernel_rfl) ?_; simp (disch := first | omega | (simp only [AM.DB, List.length_set, List.length_map]; done) | (simp only [AM.DB, List.length_set, List.length_map]; omega)) only [AM.RB, Nat.reduceAdd, Nat.reduceMul, Nat.reduceEqDiff, reduceCtorEq, b52_C1]) | (refine AM.build_w ?_; simp (disch := first | omega | (simp only [AM.DB, List.length_set, List.length_map]; done) | (simp only [AM.DB, List.length_set, List.length_map]; omega)) only [AM.RB, Nat.reduceAdd, Nat.reduceMul, Nat.reduceEqDiff, reduceCtorEq, b52_C1])))
  exact hq _ fr1

end Go.Proofs.Ytiigibhnjobcaaa

namespace Go.Proofs.Ytiigibhnjobcaaa
open Go.AM
set_option maxRecDepth 8000
theorem b19_C2 : type_of% (And.intro (@AM.ex_tuple) (And.intro (@AM.fa_ptr) (And.intro (@fd_37_0) (And.intro (@fd_45_1) (And.intro (@AM.iaO_ok) (And.intro (AM.ia_slice el_31) (And.intro (@AM.ldO_agg) (And.intro (@AM.ldO_one) (And.intro (@AM.ld_ptr) (And.intro (@lk_31) (And.intro (@lk_38) (And.intro (@AM.op_call) (And.intro (@AM.op_extract) (And.intro (@AM.op_fieldAddr) (And.intro (@AM.op_indexAddr) (And.intro (@AM.op_load) (And.intro (@AM.op_nilCheck) (And.intro (@AM.op_unOp) (And.intro (@AM.resL_two) (And.intro (@AM.un_neg) (@AM.un_not))))))))))))))))))))) := And.intro (@AM.ex_tuple) (And.intro (@AM.fa_ptr) (And.intro (@fd_37_0) (And.intro (@fd_45_1) (And.intro (@AM.iaO_ok) (And.intro (AM.ia_slice el_31) (And.intro (@AM.ldO_agg) (And.intro (@AM.ldO_one) (And.intro (@AM.ld_ptr) (And.intro (@lk_31) (And.intro (@lk_38) (And.intro (@AM.op_call) (And.intro (@AM.op_extract) (And.intro (@AM.op_fieldAddr) (And.intro (@AM.op_indexAddr) (And.intro (@AM.op_load) (And.intro (@AM.op_nilCheck) (And.intro (@AM.op_unOp) (And.intro (@AM.resL_two) (And.intro (@AM.un_neg) (@AM.un_not))))))))))))))))))))
theorem b55_C2 : type_of% (And.intro (@Option.isNone_none.{0}) (And.intro (@Option.isNone_some.{0}) (And.intro (AM.bin_snil ul_31) (And.intro (AM.bsW_agg bs_31) (And.intro (AM.bsW_nil bs_31) (And.intro (@AM.op_append) (And.intro (@AM.op_binOp) (@AM.op_buildSlice)))))))) := And.intro (@Option.isNone_none.{0}) (And.intro (@Option.isNone_some.{0}) (And.intro (AM.bin_snil ul_31) (And.intro (AM.bsW_agg bs_31) (And.intro (AM.bsW_nil bs_31) (And.intro (@AM.op_append) (And.intro (@AM.op_binOp) (@AM.op_buildSlice)))))))
theorem b16_C2 : type_of% (And.intro (@Option.isNone_none.{0}) (And.intro (@Option.isNone_some.{0}) (And.intro (AM.bin_pnil ul_23) (And.intro (@AM.fa_ptr) (And.intro (@fd_37_0) (And.intro (@AM.ldO_agg) (And.intro (@AM.ldO_one) (And.intro (@AM.ld_ptr) (And.intro (@lk_31) (And.intro (@AM.op_binOp) (And.intro (@AM.op_call) (And.intro (@AM.op_fieldAddr) (And.intro (@AM.op_load) (@AM.op_nilCheck)))))))))))))) := And.intro (@Option.isNone_none.{0}) (And.intro (@Option.isNone_some.{0}) (And.intro (AM.bin_pnil ul_23) (And.intro (@AM.fa_ptr) (And.intro (@fd_37_0) (And.intro (@AM.ldO_agg) (And.intro (@AM.ldO_one) (And.intro (@AM.ld_ptr) (And.intro (@lk_31) (And.intro (@AM.op_binOp) (And.intro (@AM.op_call) (And.intro (@AM.op_fieldAddr) (And.intro (@AM.op_load) (@AM.op_nilCheck)))))))))))))
theorem b15_C2 : type_of% (And.intro (@AM.andO_some) (And.intro (@AM.bin_add) (And.intro (AM.bin_agg_neq se_45) (And.intro (@AM.bin_lss) (And.intro (@AM.bin_neq) (And.intro (@AM.eqL_cons) (And.intro (@AM.eqL_nil) (And.intro (@AM.eqS_bool) (And.intro (@AM.eqS_int) (And.intro (@AM.eqS_string) (And.intro (@AM.iaO_ok) (And.intro (AM.ia_slice el_31) (And.intro (@AM.ldO_agg) (And.intro (@AM.ldO_one) (And.intro (@AM.ld_ptr) (And.intro (AM.len_slice ul_31) (And.intro (@lk_45) (And.intro (@AM.op_binOp) (And.intro (@AM.op_indexAddr) (And.intro (@AM.op_len) (@AM.op_load))))))))))))))))))))) := And.intro (@AM.andO_some) (And.intro (@AM.bin_add) (And.intro (AM.bin_agg_neq se_45) (And.intro (@AM.bin_lss) (And.intro (@AM.bin_neq) (And.intro (@AM.eqL_cons) (And.intro (@AM.eqL_nil) (And.intro (@AM.eqS_bool) (And.intro (@AM.eqS_int) (And.intro (@AM.eqS_string) (And.intro (@AM.iaO_ok) (And.intro (AM.ia_slice el_31) (And.intro (@AM.ldO_agg) (And.intro (@AM.ldO_one) (And.intro (@AM.ld_ptr) (And.intro (AM.len_slice ul_31) (And.intro (@lk_45) (And.intro (@AM.op_binOp) (And.intro (@AM.op_indexAddr) (And.intro (@AM.op_len) (@AM.op_load))))))))))))))))))))


theorem encC_one (L : List Cm) : (L.flatMap encC).all (·.oneCell') = true := by
  rw [List.all_eq_true]
  intro x hx
  obtain ⟨c, _, hc⟩ := List.mem_flatMap.1 hx
  rcases List.mem_cons.1 hc with rfl | hc
  · rfl
  · rcases List.mem_cons.1 hc with rfl | hc
    · rfl
    · cases hc
theorem hasC_get (L : List Cm) (x : Int) : hasC L x = (getC L x).isSome := by
  unfold hasC getC
  induction L with
  | nil => rfl
  | cons p L ih =>
    rw [List.any_cons, List.find?_cons]
    cases h : p.1 == x <;> simp [h, ih]
theorem getC_at {L : List Cm} (hs : Srt L) {k : Nat} (hk : k < L.length) : getC L (L.getD k d0).1 = some (L.getD k d0).2 := by
  unfold getC
  induction L generalizing k with
  | nil => simp at hk
  | cons p L ih =>
    have hp := List.pairwise_cons.1 hs
    cases k with
    | zero => simp [List.find?_cons]
    | succ k =>
      simp only [List.length_cons] at hk
      have hk' : k < L.length := by omega
      have e : (p :: L).getD (k + 1) d0 = L.getD k d0 := rfl
      have hm : L.getD k d0 ∈ L := by simp [List.getD, hk']
      rw [e, List.find?_cons]
      have : (p.1 == (L.getD k d0).1) = false := by have := hp.1 _ hm; rw [beq_eq_false_iff_ne]; omega
      rw [this]
      exact ih hp.2 hk'
theorem posC_at {L : List Cm} (hs : Srt L) {x : Int} (hx : hasC L x = true) : posC L x < L.length ∧ (L.getD (posC L x) d0).1 = x := by
  unfold hasC at hx
  obtain ⟨p, hp, e⟩ := List.any_eq_true.1 hx
  obtain ⟨k, hk, rfl⟩ := List.getElem_of_mem hp
  have ek : L.getD k d0 = L[k] := by simp [List.getD, hk]
  have hx2 : (L.getD k d0).1 = x := by rw [ek]; exact beq_iff_eq.1 e
  clear e ek
  have : posC L x = k := posC_split L x k (by omega) (fun j hj => by have := hs.lt hj (by omega); omega) (fun j hj hj2 => by have := hs.le hj hj2; omega)
  rw [this]; exact ⟨hk, hx2⟩
theorem getC_pos {L : List Cm} (hs : Srt L) {x : Int} (hx : hasC L x = true) : getC L x = some (L.getD (posC L x) d0).2 := by
  obtain ⟨h1, h2⟩ := posC_at hs hx
  have := getC_at hs h1
  rwa [h2] at this

theorem gen_w {p : Nat} {v : Value} {L : List Cm} {x : Int} {h : AHeap} (hc : Cl h p v L) (hsrt : Srt L) (hn : L.length ≤ 4000000000) {Q : VQ}
    (hq : ∀ h', Fr none' h h' → Q (.tuple #[.int .u32 ((getC L x).getD 0), .bool (getC L x).isSome]) h') : W 19 [pv p, .int .i64 x] h Q := by
  refine AM.enter hp (fn := Try.f19) (rs := [.tmp 4, .tmp 5]) (nt := 24) (by kernel_rfl) Try.func19 rfl rfl rfl (by kernel_rfl) ?_
  (first | (simp (disch := first | omega | (simp only [AM.DB, List.length_set, List.length_map]; done) | (simp only [AM.DB, List.length_set, List.length_map]; omega)) only [AM.RB, Nat.reduceAdd, Nat.reduceMul, Nat.reduceEqDiff, reduceCtorEq, b19_C2]) | skip); (repeat' (first | (refine AM.drawW_fine hp (by kernel_rfl) (by kernel_rfl) ?_; simp (disch := first | omega | (simp only [AM.DB, List.length_set, List.length_map]; done) | (simp only [AM.DB, List.length_set, List.length_map]; omega)) only [AM.RB, Nat.reduceAdd, Nat.reduceMul, Nat.reduceEqDiff, reduceCtorEq, b19_C2]) | (refine AM.opW_tied (by kernel_rfl) ?_; simp (disch := first | omega | (simp only [AM.DB, List.length_set, List.length_map]; done) | (simp only [AM.DB, List.length_set, List.length_map]; omega)) only [AM.RB, Nat.reduceAdd, Nat.reduceMul, Nat.reduceEqDiff, reduceCtorEq, b19_C2]) | (refine AM.opW_untied (by kernel_rfl) ?_; simp (disch := first | omega | (simp only [AM.DB, List.length_set, List.length_map]; done) | (simp only [AM.DB, List.length_set, List.length_map]; omega)) only [AM.RB, Nat.reduceAdd, Nat.reduceMul, Nat.reduceEqDiff, reduceCtorEq, b19_C2]) | (refine AM.build_w ?_; simp (disch := first | omega | (simp only [AM.DB, List.length_set, List.length_map]; done) | (simp only [AM.DB, List.length_set, List.length_map]; omega)) only [AM.RB, Nat.reduceAdd, Nat.reduceMul, Nat.reduceEqDiff, reduceCtorEq, b19_C2])))
  refine find_w hc hsrt hn fun h1 fr1 => ?_
  have hc1 := hc.fr0 fr1
  have hg := hc1.1
  obtain ⟨a, cap, rfl⟩ := hc.2.1.form
  have hr := hc1.2.1.rd
  (first | (simp (disch := first | omega | (simp only [AM.DB, List.length_set, List.length_map]; done) | (simp only [AM.DB, List.length_set, List.length_map]; omega)) only [AM.RB, Nat.reduceAdd, Nat.reduceMul, Nat.reduceEqDiff, reduceCtorEq, b19_C2]) | skip); (repeat' (first | (refine AM.drawW_fine hp (by kernel_rfl) (by kernel_rfl) ?_; simp (disch := first | omega | (simp only [AM.DB, List.length_set, List.length_map]; done) | (simp only [AM.DB, List.length_set, List.length_map]; omega)) only [AM.RB, Nat.reduceAdd, Nat.reduceMul, Nat.reduceEqDiff, reduceCtorEq, b19_C2]) | (refine AM.opW_tied (by kernel_rfl) ?_; simp (disch := first | omega | (simp only [AM.DB, List.length_set, List.length_map]; done) | (simp only [AM.DB, List.length_set, List.length_map]; omega)) only [AM.RB, Nat.reduceAdd, Nat.reduceMul, Nat.reduceEqDiff, reduceCtorEq, b19_C2]) | (refine AM.opW_untied (by kernel_rfl) ?_; simp (disch := first | omega | (simp only [AM.DB, List.length_set, List.length_map]; done) | (simp only [AM.DB, List.length_set, List.length_map]; omega)) only [AM.RB, Nat.reduceAdd, Nat.reduceMul, Nat.reduceEqDiff, reduceCtorEq, b19_C2]) | (refine AM.build_w ?_; simp (disch := first | omega | (simp only [AM.DB, List.length_set, List.length_map]; done) | (simp only [AM.DB, List.length_set, List.length_map]; omega)) only [AM.RB, Nat.reduceAdd, Nat.reduceMul, Nat.reduceEqDiff, reduceCtorEq, b19_C2])))
  refine AM.condV_bool (fun hb => ?_) (fun hb => ?_)
  · have hp := posC_at hsrt hb
    have hp1 := hp.1
    have hge := getC_pos hsrt hb
    (first | (simp (disch := first | omega | (simp only [AM.DB, List.length_set, List.length_map]; done) | (simp only [AM.DB, List.length_set, List.length_map]; omega)) only [AM.RB, Nat.reduceAdd, Nat.reduceMul, Nat.reduceEqDiff, reduceCtorEq, b19_C2, hg, hr.ia el_31, hr.fa fd_45_1, hr.ldsF encC_len lk_38 rfl d0, encC, Int.toNat_natCast]) | skip); (repeat' (first | (refine AM.drawW_fine hp (by kernel_rfl) (by kernel_rfl) ?_; simp (disch := first | omega | (simp only [AM.DB, List.length_set, List.length_map]; done) | (simp only [AM.DB, List.length_set, List.length_map]; omega)) only [AM.RB, Nat.reduceAdd, Nat.reduceMul, Nat.reduceEqDiff, reduceCtorEq, b19_C2, hg, hr.ia el_31, hr.fa fd_45_1, hr.ldsF encC_len lk_38 rfl d0, encC, Int.toNat_natCast]) | (refine AM.opW_tied (by kernel_rfl) ?_; simp (disch := first | omega | (simp only [AM.DB, List.length_set, List.length_map]; done) | (simp only [AM.DB, List.length_set, List.length_map]; omega)) only [AM.RB, Nat.reduceAdd, Nat.reduceMul, Nat.reduceEqDiff, reduceCtorEq, b19_C2, hg, hr.ia el_31, hr.fa fd_45_1, hr.ldsF encC_len lk_38 rfl d0, encC, Int.toNat_natCast]) | (refine AM.opW_untied (by kernel_rfl) ?_; simp (disch := first | omega | (simp only [AM.DB, List.length_set, List.length_map]; done) | (simp only [AM.DB, List.length_set, List.length_map]; omega)) only [AM.RB, Nat.reduceAdd, Nat.reduceMul, Nat.reduceEqDiff, reduceCtorEq, b19_C2, hg, hr.ia el_31, hr.fa fd_45_1, hr.ldsF encC_len lk_38 rfl d0, encC, Int.toNat_natCast]) | (refine AM.build_w ?_; simp (disch := first | omega | (simp only [AM.DB, List.length_set, List.length_map]; done) | (simp only [AM.DB, List.length_set, List.length_map]; omega)) only [AM.RB, Nat.reduceAdd, Nat.reduceMul, Nat.reduceEqDiff, reduceCtorEq, b19_C2, hg, hr.ia el_31, hr.fa fd_45_1, hr.ldsF encC_len lk_38 rfl d0, encC, Int.toNat_natCast])))
    rw [hge] at hq
    exact hq _ fr1
  · (first | (simp (disch := first | omega | (simp only [AM.DB, List.length_set, List.length_map]; done) | (simp only [AM.DB, List.length_set, List.length_map]; omega)) only [AM.RB, Nat.reduceAdd, Nat.reduceMul, Nat.reduceEqDiff, reduceCtorEq, b19_C2]) | skip); (repeat' (first | (refine AM.drawW_fine hp (by kernel_rfl) (by kernel_rfl) ?_; simp (disch := first | omega | (simp only [AM.DB, List.length_set, List.length_map]; done) | (simp only [AM.DB, List.length_set, List.length_map]; omega)) only [AM.RB, Nat.reduceAdd, Nat.reduceMul, Nat.reduceEqDiff, reduceCtorEq, b19_C2]) | (refine AM.opW_tied (by kernel_rfl) ?_; simp (disch := first | omega | (simp only [AM.DB, List.length_set, List.length_map]; done) | (simp only [AM.DB, List.length_set, List.length_map]; omega)) only [AM.RB, Nat.reduceAdd, Nat.reduceMul, Nat.reduceEqDiff, reduceCtorEq, b19_C2]) | (refine AM.opW_untied (by kernel_rfl) ?_; simp (disch := first | omega | (simp only [AM.DB, List.length_set, List.length_map]; done) | (simp only [AM.DB, List.length_set, List.length_map]; omega)) only [AM.RB, Nat.reduceAdd, Nat.reduceMul, Nat.reduceEqDiff, reduceCtorEq, b19_C2]) | (refine AM.build_w ?_; simp (disch := first | omega | (simp only [AM.DB, List.length_set, List.length_map]; done) | (simp only [AM.DB, List.length_set, List.length_map]; omega)) only [AM.RB, Nat.reduceAdd, Nat.reduceMul, Nat.reduceEqDiff, reduceCtorEq, b19_C2])))
    have : getC L x = none := by rw [hasC_get] at hb; simpa using hb
    rw [this] at hq
    exact hq _ fr1


theorem clone_w {s : Value} {n : Nat} {cs : List Value} {h : AHeap} (hs : Rd h 45 2 s n cs) (hc : cs.all (·.oneCell') = true) (hn : n ≤ 4000000000) (hl : h.low ≤ h.next) {Q : VQ}
    (hq : ∀ v h', Ow h' 45 2 v n cs → Fr none' h h' → (∀ id, idOf v id → h.next ≤ id) → Q v h') : W 55 [s] h Q := by
  obtain ⟨a, cap, rfl⟩ := hs.form
  refine AM.enter hp (fn := Try.f55) (rs := [.tmp 2]) (nt := 8) (by kernel_rfl) Try.func55 rfl rfl rfl (by kernel_rfl) ?_
  simp (disch := first | omega | (simp only [AM.DB, List.length_set, List.length_map]; done) | (simp only [AM.DB, List.length_set, List.length_map]; omega)) only [AM.RB, Nat.reduceAdd, Nat.reduceMul, Nat.reduceEqDiff, reduceCtorEq, b55_C2]
  cases a with
  | none =>
    simp (disch := first | omega | (simp only [AM.DB, List.length_set, List.length_map]; done) | (simp only [AM.DB, List.length_set, List.length_map]; omega)) only [AM.RB, Nat.reduceAdd, Nat.reduceMul, Nat.reduceEqDiff, reduceCtorEq, b55_C2, Option.isNone_none]
    rcases hs with ⟨e, rfl, rfl⟩ | ⟨id, off, cap', c, e', o, e, _⟩
    · exact hq _ _ (Ow.nil _ _ _) (Fr.refl _ _) (fun _ q => q.elim)
    · cases e
  | some a =>
    simp (disch := first | omega | (simp only [AM.DB, List.length_set, List.length_map]; done) | (simp only [AM.DB, List.length_set, List.length_map]; omega)) only [AM.RB, Nat.reduceAdd, Nat.reduceMul, Nat.reduceEqDiff, reduceCtorEq, b55_C2, Option.isNone_some]
    have fr0 : Fr none' h (h.alloc (.cells [] 45 false)) := (Fr.refl _ _).alloc _
    have ow0 : Ow (h.alloc (.cells [] 45 false)) 45 2 (.slice (some ⟨h.next, 0, none⟩) 0 0) 0 [] := AM.Ow.whole (n := 0) (AM.get_alloc_self rfl) rfl hl
    have hl1 : (h.alloc (.cells [] 45 false)).low ≤ (h.alloc (.cells [] 45 false)).next := by simp only [AHeap.next_alloc, AHeap.low_alloc]; omega
    refine AM.appends_w ap_31 ap_31 ow0 (hs.fr0 fr0) hc hl1 (AM.fits (by omega) (by omega)) (AM.fits' (by omega)) ?_
    intro v h' how fr hid
    simp (disch := first | omega | (simp only [AM.DB, List.length_set, List.length_map]; done) | (simp only [AM.DB, List.length_set, List.length_map]; omega)) only [AM.RB, Nat.reduceAdd, Nat.reduceMul, Nat.reduceEqDiff, reduceCtorEq, b55_C2]
    rw [Nat.zero_add] at how
    refine hq _ _ how (fr0.then fr fun id h1 h2 => ?_) (fun id q => ?_)
    · have : id = h.next := h2
      omega
    · rcases hid id q with h2 | h2
      · have : id = h.next := h2
        omega
      · have : h.next + 1 ≤ id := h2
        omega

theorem all_w {p : Nat} {v : Value} {L : List Cm} {h : AHeap} (hc : Cl h p v L) (hn : L.length ≤ 4000000000) (hl : h.low ≤ h.next) {Q : VQ}
    (hq : ∀ v' h', Ow h' 45 2 v' L.length (L.flatMap encC) → Fr none' h h' → (∀ id, idOf v' id → h.next ≤ id) → Q v' h') : W 16 [pv p] h Q := by
  have hg := hc.1
  refine AM.enter hp (fn := Try.f16) (rs := [.tmp 2]) (nt := 10) (by kernel_rfl) Try.func16 rfl rfl rfl (by kernel_rfl) ?_
  (first | (simp (disch := first | omega | (simp only [AM.DB, List.length_set, List.length_map]; done) | (simp only [AM.DB, List.length_set, List.length_map]; omega)) only [AM.RB, Nat.reduceAdd, Nat.reduceMul, Nat.reduceEqDiff, reduceCtorEq, b16_C2, hg]) | skip); (repeat' (first | (refine AM.drawW_fine hp (by kernel_rfl) (by kernel_rfl) ?_; simp (disch := first | omega | (simp only [AM.DB, List.length_set, List.length_map]; done) | (simp only [AM.DB, List.length_set, List.length_map]; omega)) only [AM.RB, Nat.reduceAdd, Nat.reduceMul, Nat.reduceEqDiff, reduceCtorEq, b16_C2, hg]) | (refine AM.opW_tied (by kernel_rfl) ?_; simp (disch := first | omega | (simp only [AM.DB, List.length_set, List.length_map]; done) | (simp only [AM.DB, List.length_set, List.length_map]; omega)) only [AM.RB, Nat.reduceAdd, Nat.reduceMul, Nat.reduceEqDiff, reduceCtorEq, b16_C2, hg]) | (refine AM.opW_untied (by kernel_rfl) ?_; simp (disch := first | omega | (simp only [AM.DB, List.length_set, List.length_map]; done) | (simp only [AM.DB, List.length_set, List.length_map]; omega)) only [AM.RB, Nat.reduceAdd, Nat.reduceMul, Nat.reduceEqDiff, reduceCtorEq, b16_C2, hg]) | (refine AM.build_w ?_; simp (disch := first | omega | (simp only [AM.DB, List.length_set, List.length_map]; done) | (simp only [AM.DB, List.length_set, List.length_map]; omega)) only [AM.RB, Nat.reduceAdd, Nat.reduceMul, Nat.reduceEqDiff, reduceCtorEq, b16_C2, hg])))
  refine clone_w hc.2.1.rd (encC_one L) hn hl fun v' h1 ho fr hid => ?_
  (first | (simp (disch := first | omega | (simp only [AM.DB, List.length_set, List.length_map]; done) | (simp only [AM.DB, List.length_set, List.length_map]; omega)) only [AM.RB, Nat.reduceAdd, Nat.reduceMul, Nat.reduceEqDiff, reduceCtorEq, b16_C2]) | skip); (repeat' (first | (refine AM.drawW_fine hp (by kernel_rfl) (by kernel_rfl) ?_; simp (disch := first | omega | (simp only [AM.DB, List.length_set, List.length_map]; done) | (simp only [AM.DB, List.length_set, List.length_map]; omega)) only [AM.RB, Nat.reduceAdd, Nat.reduceMul, Nat.reduceEqDiff, reduceCtorEq, b16_C2]) | (refine AM.opW_tied (by kernel_rfl) ?_; simp (disch := first | omega | (simp only [AM.DB, List.length_set, List.length_map]; done) | (simp only [AM.DB, List.length_set, List.length_map]; omega)) only [AM.RB, Nat.reduceAdd, Nat.reduceMul, Nat.reduceEqDiff, reduceCtorEq, b16_C2]) | (refine AM.opW_untied (by kernel_rfl) ?_; simp (disch := first | omega | (simp only [AM.DB, List.length_set, List.length_map]; done) | (simp only [AM.DB, List.length_set, List.length_map]; omega)) only [AM.RB, Nat.reduceAdd, Nat.reduceMul, Nat.reduceEqDiff, reduceCtorEq, b16_C2]) | (refine AM.build_w ?_; simp (disch := first | omega | (simp only [AM.DB, List.length_set, List.length_map]; done) | (simp only [AM.DB, List.length_set, List.length_map]; omega)) only [AM.RB, Nat.reduceAdd, Nat.reduceMul, Nat.reduceEqDiff, reduceCtorEq, b16_C2])))
  exact hq _ _ ho fr hid

theorem same_w {sa sb : Value} {na nb : Nat} {la lb : List Cm} {h : AHeap} (ha : Rd h 45 2 sa na (la.flatMap encC)) (hla : la.length = na) (hb : Rd h 45 2 sb nb (lb.flatMap encC)) (hlb : lb.length = nb) (hn : na ≤ 4000000000) {Q : VQ}
    (hq : Q (.bool (decide (la = lb))) h) : W 15 [sa, sb] h Q := by
  obtain ⟨aa, ca, rfl⟩ := ha.form
  obtain ⟨ab, cb, rfl⟩ := hb.form
  refine AM.enter hp (fn := Try.f15) (rs := [.tmp 4]) (nt := 26) (by kernel_rfl) Try.func15 rfl rfl rfl (by kernel_rfl) ?_
  (first | (simp (disch := first | omega | (simp only [AM.DB, List.length_set, List.length_map]; done) | (simp only [AM.DB, List.length_set, List.length_map]; omega)) only [AM.RB, Nat.reduceAdd, Nat.reduceMul, Nat.reduceEqDiff, reduceCtorEq, b15_C2]) | skip); (repeat' (first | (refine AM.drawW_fine hp (by kernel_rfl) (by kernel_rfl) ?_; simp (disch := first | omega | (simp only [AM.DB, List.length_set, List.length_map]; done) | (simp only [AM.DB, List.length_set, List.length_map]; omega)) only [AM.RB, Nat.reduceAdd, Nat.reduceMul, Nat.reduceEqDiff, reduceCtorEq, b15_C2]) | (refine AM.opW_tied (by kernel_rfl) ?_; simp (disch := first | omega | (simp only [AM.DB, List.length_set, List.length_map]; done) | (simp only [AM.DB, List.length_set, List.length_map]; omega)) only [AM.RB, Nat.reduceAdd, Nat.reduceMul, Nat.reduceEqDiff, reduceCtorEq, b15_C2]) | (refine AM.opW_untied (by kernel_rfl) ?_; simp (disch := first | omega | (simp only [AM.DB, List.length_set, List.length_map]; done) | (simp only [AM.DB, List.length_set, List.length_map]; omega)) only [AM.RB, Nat.reduceAdd, Nat.reduceMul, Nat.reduceEqDiff, reduceCtorEq, b15_C2]) | (refine AM.build_w ?_; simp (disch := first | omega | (simp only [AM.DB, List.length_set, List.length_map]; done) | (simp only [AM.DB, List.length_set, List.length_map]; omega)) only [AM.RB, Nat.reduceAdd, Nat.reduceMul, Nat.reduceEqDiff, reduceCtorEq, b15_C2])))
  refine AM.condV_split (fun he => ?_) (fun he => ?_)
  case' refine_2 =>
    simp (disch := first | omega | (simp only [AM.DB, List.length_set, List.length_map]; done) | (simp only [AM.DB, List.length_set, List.length_map]; omega)) only [AM.RB, Nat.reduceAdd, Nat.reduceMul, Nat.reduceEqDiff, reduceCtorEq, b15_C2]
    have : decide (la = lb) = false := by
      rw [decide_eq_false_iff_not]; rintro rfl; omega
    rw [this] at hq; exact hq
  have he' : na = nb := by omega
  subst he'
  simp (disch := first | omega | (simp only [AM.DB, List.length_set, List.length_map]; done) | (simp only [AM.DB, List.length_set, List.length_map]; omega)) only [AM.RB, Nat.reduceAdd, Nat.reduceMul, Nat.reduceEqDiff, reduceCtorEq, b15_C2]
  refine AM.loop_w hp 26 (fun i : Nat => [(0, .slice aa na ca), (1, .slice ab na cb), (5, .int .i64 i)])
    (fun i h' => i ≤ na ∧ h' = h ∧ ∀ j, j < i → la.getD j d0 = lb.getD j d0) (fun i => na - i) (by kernel_rfl) 0 ?_ ?_ ?_
  · simp (disch := first | omega | (simp only [AM.DB, List.length_set, List.length_map]; done) | (simp only [AM.DB, List.length_set, List.length_map]; omega)) only [AM.RB, Nat.reduceAdd, Nat.reduceMul, Nat.reduceEqDiff, reduceCtorEq, b15_C2]
  · exact ⟨Nat.zero_le _, rfl, fun j hj => by omega⟩
  rintro i h1 ρ ⟨hi, rfl, hall⟩
  simp (disch := first | omega | (simp only [AM.DB, List.length_set, List.length_map]; done) | (simp only [AM.DB, List.length_set, List.length_map]; omega)) only [AM.RB, Nat.reduceAdd, Nat.reduceMul, Nat.reduceEqDiff, reduceCtorEq, b15_C2]
  refine AM.condV_split (fun hlt => ?_) (fun hlt => ?_)
  · (first | (simp (disch := first | omega | (simp only [AM.DB, List.length_set, List.length_map]; done) | (simp only [AM.DB, List.length_set, List.length_map]; omega)) only [AM.RB, Nat.reduceAdd, Nat.reduceMul, Nat.reduceEqDiff, reduceCtorEq, b15_C2, ha.ia el_31, ha.lds encC_len lk_45 hla d0, hb.ia el_31, hb.lds encC_len lk_45 hlb d0, encC, AM.wrap_i64, Int.toNat_natCast]) | skip); (repeat' (first | (refine AM.guard_spl ?_ ?_ <;> (intro hd hp_; simp (disch := first | omega | (simp only [AM.DB, List.length_set, List.length_map]; done) | (simp only [AM.DB, List.length_set, List.length_map]; omega)) only [AM.RB, Nat.reduceAdd, Nat.reduceMul, Nat.reduceEqDiff, reduceCtorEq, b15_C2, hd, ha.ia el_31, ha.lds encC_len lk_45 hla d0, hb.ia el_31, hb.lds encC_len lk_45 hlb d0, encC, AM.wrap_i64, Int.toNat_natCast])) | (refine AM.cond_spl ?_ ?_ <;> (intro hd hp_; simp (disch := first | omega | (simp only [AM.DB, List.length_set, List.length_map]; done) | (simp only [AM.DB, List.length_set, List.length_map]; omega)) only [AM.RB, Nat.reduceAdd, Nat.reduceMul, Nat.reduceEqDiff, reduceCtorEq, b15_C2, hd, ha.ia el_31, ha.lds encC_len lk_45 hla d0, hb.ia el_31, hb.lds encC_len lk_45 hlb d0, encC, AM.wrap_i64, Int.toNat_natCast])) | (refine AM.guard_b ?_ ?_ <;> (intro hd hp_; simp (disch := first | omega | (simp only [AM.DB, List.length_set, List.length_map]; done) | (simp only [AM.DB, List.length_set, List.length_map]; omega)) only [AM.RB, Nat.reduceAdd, Nat.reduceMul, Nat.reduceEqDiff, reduceCtorEq, b15_C2, hd, ha.ia el_31, ha.lds encC_len lk_45 hla d0, hb.ia el_31, hb.lds encC_len lk_45 hlb d0, encC, AM.wrap_i64, Int.toNat_natCast])) | (refine AM.cond_b ?_ ?_ <;> (intro hd hp_; simp (disch := first | omega | (simp only [AM.DB, List.length_set, List.length_map]; done) | (simp only [AM.DB, List.length_set, List.length_map]; omega)) only [AM.RB, Nat.reduceAdd, Nat.reduceMul, Nat.reduceEqDiff, reduceCtorEq, b15_C2, hd, ha.ia el_31, ha.lds encC_len lk_45 hla d0, hb.ia el_31, hb.lds encC_len lk_45 hlb d0, encC, AM.wrap_i64, Int.toNat_natCast])) | (refine AM.drawW_fine hp (by kernel_rfl) (by kernel_rfl) ?_; simp (disch := first | omega | (simp only [AM.DB, List.length_set, List.length_map]; done) | (simp only [AM.DB, List.length_set, List.length_map]; omega)) only [AM.RB, Nat.reduceAdd, Nat.reduceMul, Nat.reduceEqDiff, reduceCtorEq, b15_C2, ha.ia el_31, ha.lds encC_len lk_45 hla d0, hb.ia el_31, hb.lds encC_len lk_45 hlb d0, encC, AM.wrap_i64, Int.toNat_natCast]) | (refine AM.opW_tied (by kernel_rfl) ?_; simp (disch := first | omega | (simp only [AM.DB, List.length_set, List.length_map]; done) | (simp only [AM.DB, List.length_set, List.length_map]; omega)) only [AM.RB, Nat.reduceAdd, Nat.reduceMul, Nat.reduceEqDiff, reduceCtorEq, b15_C2, ha.ia el_31, ha.lds encC_len lk_45 hla d0, hb.ia el_31, hb.lds encC_len lk_45 hlb d0, encC, AM.wrap_i64, Int.toNat_natCast]) | (refine AM.opW_untied (by kernel_rfl) ?_; simp (disch := first | omega | (simp only [AM.DB, List.length_set, List.length_map]; done) | (simp only [AM.DB, List.length_set, List.length_map]; omega)) only [AM.RB, Nat.reduceAdd, Nat.reduceMul, Nat.reduceEqDiff, reduceCtorEq, b15_C2, ha.ia el_31, ha.lds encC_len lk_45 hla d0, hb.ia el_31, hb.lds encC_len lk_45 hlb d0, encC, AM.wrap_i64, Int.toNat_natCast]) | (refine AM.build_w ?_; simp (disch := first | omega | (simp only [AM.DB, List.length_set, List.length_map]; done) | (simp only [AM.DB, List.length_set, List.length_map]; omega)) only [AM.RB, Nat.reduceAdd, Nat.reduceMul, Nat.reduceEqDiff, reduceCtorEq, b15_C2, ha.ia el_31, ha.lds encC_len lk_45 hla d0, hb.ia el_31, hb.lds encC_len lk_45 hlb d0, encC, AM.wrap_i64, Int.toNat_natCast])))
    · simp only [Bool.and_true, Bool.and_eq_true, decide_eq_true_eq] at hp_
      refine ⟨i + 1, by omega, by simp, by omega, fun j hj => ?_⟩
      by_cases e : j = i
      · subst e; exact Prod.ext hp_.1 hp_.2
      · exact hall j (by omega)
    · have : decide (la = lb) = false := by
        rw [decide_eq_false_iff_not]; rintro rfl; simp at hp_
      rw [this] at hq; exact hq
  · simp (disch := first | omega | (simp only [AM.DB, List.length_set, List.length_map]; done) | (simp only [AM.DB, List.length_set, List.length_map]; omega)) only [AM.RB, Nat.reduceAdd, Nat.reduceMul, Nat.reduceEqDiff, reduceCtorEq, b15_C2]
    have : decide (la = lb) = true := by
      rw [decide_eq_true_iff]
      refine List.ext_getElem (by omega) fun j h2 h3 => ?_
      have := hall j (by omega)
      simpa [List.getD, h2, h3] using this
    rw [this] at hq; exact hq

end Go.Proofs.Ytiigibhnjobcaaa

namespace Go.Proofs.Ytiigibhnjobcaaa
open Go.AM

/-! ### Plain: claims that are put in -/
theorem posC_cons_lt {p : Cm} {L : List Cm} {x : Int} (h : p.1 < x) : posC (p :: L) x = posC L x + 1 := by
  unfold posC; rw [List.countP_cons_of_pos (by simpa using h)]
theorem posC_zero {L : List Cm} {x : Int} (h : ∀ p ∈ L, x ≤ p.1) : posC L x = 0 := by
  unfold posC; rw [List.countP_eq_zero]; intro p hp; have := h p hp; simp; omega
theorem take_lt {L : List Cm} (hs : Srt L) (x : Int) : (∀ p ∈ L.take (posC L x), p.1 < x) ∧ ∀ p ∈ L.drop (posC L x), x ≤ p.1 := by
  induction L with
  | nil => exact ⟨fun p h => (by simp at h), fun p h => (by simp at h)⟩
  | cons q L ih =>
    have hq := List.pairwise_cons.1 hs
    by_cases h : q.1 < x
    · rw [posC_cons_lt h]
      obtain ⟨h1, h2⟩ := ih hq.2
      refine ⟨fun p hp => ?_, fun p hp => h2 p (by simpa using hp)⟩
      rw [List.take_succ_cons] at hp
      rcases List.mem_cons.1 hp with rfl | hp
      · exact h
      · exact h1 p hp
    · have hall : ∀ p ∈ q :: L, x ≤ p.1 := by
        intro p hp
        rcases List.mem_cons.1 hp with rfl | hp
        · omega
        · have := hq.1 p hp; omega
      rw [posC_zero hall]
      exact ⟨fun p h => (by simp at h), fun p hp => hall p (by simpa using hp)⟩
theorem getC_append (A B : List Cm) (x : Int) : getC (A ++ B) x = (getC A x).or (getC B x) := by
  unfold getC; rw [List.find?_append]; cases A.find? fun p => p.1 == x <;> rfl
theorem getC_none {A : List Cm} {x : Int} (h : ∀ p ∈ A, p.1 ≠ x) : getC A x = none := by
  unfold getC
  have : A.find? (fun p => p.1 == x) = none := by rw [List.find?_eq_none]; intro p hp; simpa using h p hp
  rw [this]; rfl
theorem getC_cons (q : Cm) (A : List Cm) (x : Int) : getC (q :: A) x = if q.1 = x then some q.2 else getC A x := by
  unfold getC; rw [List.find?_cons]
  by_cases h : q.1 = x
  · rw [if_pos h]; simp [h]
  · rw [if_neg h]; have : (q.1 == x) = false := by simpa using h
    rw [this]
theorem insC_get {L : List Cm} (hs : Srt L) (x g y : Int) (hx : getC L x = none) : getC (insC L x g) y = if y = x then some g else getC L y := by
  obtain ⟨h1, h2⟩ := take_lt hs x
  have e : getC L y = (getC (L.take (posC L x)) y).or (getC (L.drop (posC L x)) y) := by rw [← getC_append, List.take_append_drop]
  unfold insC
  rw [getC_append, getC_cons]
  by_cases h : y = x
  · subst h
    rw [if_pos rfl, if_pos rfl, getC_none (fun p hp => by have := h1 p hp; omega)]; rfl
  · rw [if_neg (fun q => h q.symm), if_neg h, e]
theorem insC_length (L : List Cm) (x g : Int) : (insC L x g).length = L.length + 1 := by
  have := posC_le L x
  unfold insC; simp; omega
theorem not_mem_of_get {L : List Cm} {x : Int} (hx : getC L x = none) : ∀ p ∈ L, p.1 ≠ x := by
  intro p hp e
  have : hasC L x = true := by unfold hasC; rw [List.any_eq_true]; exact ⟨p, hp, by simpa using e⟩
  rw [hasC_get, hx] at this; cases this
theorem insC_srt {L : List Cm} (hs : Srt L) {x : Int} (g : Int) (hx : getC L x = none) : Srt (insC L x g) := by
  obtain ⟨h1, h2⟩ := take_lt hs x
  have hne := not_mem_of_get hx
  have hgt : ∀ p ∈ L.drop (posC L x), x < p.1 := fun p hp => by
    have := h2 p hp; have := hne p (List.mem_of_mem_drop hp); omega
  unfold Srt insC
  rw [List.pairwise_append]
  refine ⟨hs.sublist (List.take_sublist _ _), List.pairwise_cons.2 ⟨fun p hp => hgt p hp, hs.sublist (List.drop_sublist _ _)⟩, fun a ha b hb => ?_⟩
  have := h1 a ha
  rcases List.mem_cons.1 hb with rfl | hb
  · exact this
  · have := hgt b hb; omega
theorem insC_enc (L : List Cm) (x g : Int) : (L.flatMap encC).take (posC L x * 2) ++ [.int .i64 x, .int .u32 g] ++ (L.flatMap encC).drop (posC L x * 2) = (insC L x g).flatMap encC := by
  have hp := posC_le L x
  have e : L.flatMap encC = (L.take (posC L x)).flatMap encC ++ (L.drop (posC L x)).flatMap encC := by rw [← List.flatMap_append, List.take_append_drop]
  have hl : ((L.take (posC L x)).flatMap encC).length = posC L x * 2 := by rw [AM.flat_length encC_len]; simp; omega
  rw [e, List.take_left' hl, List.drop_left' hl]
  unfold insC
  rw [List.flatMap_append, List.flatMap_cons, List.append_assoc]; rfl
theorem srt_ext : ∀ {A B : List Cm}, Srt A → Srt B → (∀ x, getC A x = getC B x) → A = B
  | [], [], _, _, _ => rfl
  | [], b :: B, _, _, h => by have := h b.1; rw [getC_cons, if_pos rfl] at this; cases this
  | a :: A, [], _, _, h => by have := h a.1; rw [getC_cons, if_pos rfl] at this; cases this
  | a :: A, b :: B, ha, hb, h => by
    have pa := List.pairwise_cons.1 ha
    have pb := List.pairwise_cons.1 hb
    have h1 : a.1 = b.1 := by
      by_cases e : a.1 = b.1
      · exact e
      · by_cases l : a.1 < b.1
        · have := h a.1
          rw [getC_cons, if_pos rfl, getC_cons, if_neg (by omega), getC_none (fun p hp => by have := pb.1 p hp; omega)] at this; cases this
        · have := h b.1
          rw [getC_cons, if_neg e, getC_cons, if_pos rfl, getC_none (fun p hp => by have := pa.1 p hp; omega)] at this; cases this
    have h2 : a.2 = b.2 := by
      have := h a.1
      rw [getC_cons, if_pos rfl, getC_cons, if_pos h1.symm] at this
      exact Option.some.inj this
    have h3 : A = B := srt_ext pa.2 pb.2 fun x => by
      by_cases e : a.1 = x
      · rw [getC_none (fun p hp => by have := pa.1 p hp; omega), getC_none (fun p hp => by have := pb.1 p hp; omega)]
      · have := h x
        rw [getC_cons, if_neg e, getC_cons, if_neg (by omega)] at this
        exact this
    rw [Prod.ext h1 h2, h3]

/-! ### Plain: records -/
abbrev Rec := Int × Int × Value × List Int
def encR (r : Rec) : List Value := [.int .i64 r.1, .int .i64 r.2.1, r.2.2.1]
theorem encR_len (r : Rec) : (encR r).length = 3 := rfl
abbrev dR : Rec := (0, 0, .slice none 0 0, [])
def RecOk (h : AHeap) (r : Rec) : Prop := (∃ a c, r.2.2.1 = .slice a r.2.2.2.length c) ∧ Rd h 5 1 r.2.2.1 r.2.2.2.length (r.2.2.2.map (.int .u8)) ∧ ∀ b ∈ r.2.2.2, 0 ≤ b ∧ b < 256
def genB (bs : List Int) : Int := bs.foldl (fun g b => g * 256 + b) 0
def cnt (l : List Rec) : Nat → Int → Nat
  | 0, _ => 0
  | i + 1, x => cnt l i x + if (l.getD i dR).1 = 2 ∧ (l.getD i dR).2.1 = x then 1 else 0
def badR (l : List Rec) (i : Nat) : Prop := (l.getD i dR).1 = 2 ∧ (¬ (0 ≤ (l.getD i dR).2.1 ∧ (l.getD i dR).2.1 < 1024) ∨ ((l.getD i dR).2.2.2.length ≠ 0 ∧ (l.getD i dR).2.2.2.length ≠ 4) ∨ 1 ≤ cnt l i (l.getD i dR).2.1)
def okTo (l : List Rec) (i : Nat) : Prop := ∀ k, k < i → ¬ badR l k
def clm (l : List Rec) : Nat → List Cm
  | 0 => []
  | i + 1 => if (l.getD i dR).1 = 2 ∧ (l.getD i dR).2.2.2.length = 4 then insC (clm l i) (l.getD i dR).2.1 (genB (l.getD i dR).2.2.2) else clm l i
theorem clm_facts (l : List Rec) : ∀ i, okTo l i → Srt (clm l i) ∧ (clm l i).length ≤ i ∧ ∀ x, (getC (clm l i) x).isSome = true → 1 ≤ cnt l i x ∧ 0 ≤ x ∧ x < 1024
  | 0, _ => ⟨List.Pairwise.nil, Nat.le_refl _, fun x h => by cases h⟩
  | i + 1, hok => by
    obtain ⟨h1, h2, h3⟩ := clm_facts l i fun k hk => hok k (by omega)
    have hb := hok i (by omega)
    unfold clm cnt
    by_cases hc : (l.getD i dR).1 = 2 ∧ (l.getD i dR).2.2.2.length = 4
    · rw [if_pos hc]
      have hn : ¬ 1 ≤ cnt l i (l.getD i dR).2.1 := fun q => hb ⟨hc.1, .inr (.inr q)⟩
      have hx : getC (clm l i) (l.getD i dR).2.1 = none := by
        cases hg : getC (clm l i) (l.getD i dR).2.1 with
        | none => rfl
        | some g => exact absurd (h3 _ (by rw [hg]; rfl)).1 hn
      refine ⟨insC_srt h1 _ hx, by rw [insC_length]; omega, fun x hs => ?_⟩
      rw [insC_get h1 _ _ _ hx] at hs
      by_cases e : x = (l.getD i dR).2.1
      · subst e
        rw [if_pos ⟨hc.1, rfl⟩]
        have : 0 ≤ (l.getD i dR).2.1 ∧ (l.getD i dR).2.1 < 1024 := by
          by_cases q : 0 ≤ (l.getD i dR).2.1 ∧ (l.getD i dR).2.1 < 1024
          · exact q
          · exact absurd ⟨hc.1, .inl q⟩ hb
        exact ⟨by omega, this⟩
      · rw [if_neg e] at hs
        have := h3 x hs
        exact ⟨by omega, this.2⟩
    · rw [if_neg hc]
      exact ⟨h1, by omega, fun x hs => by have := h3 x hs; exact ⟨by omega, this.2⟩⟩
theorem clm_none {l : List Rec} {i : Nat} (hok : okTo l i) (hb : ¬ badR l i) (hk : (l.getD i dR).1 = 2) : getC (clm l i) (l.getD i dR).2.1 = none := by
  cases hg : getC (clm l i) (l.getD i dR).2.1 with
  | none => rfl
  | some g => exact absurd ⟨hk, .inr (.inr ((clm_facts l i hok).2.2 _ (by rw [hg]; rfl)).1)⟩ hb

end Go.Proofs.Ytiigibhnjobcaaa
