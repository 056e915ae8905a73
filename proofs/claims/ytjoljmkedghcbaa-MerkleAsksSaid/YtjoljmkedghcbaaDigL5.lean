/-
  A block's other words. No condition.
-/
import Derived.Test.YtjoljmkedghcbaaDigLoops
namespace Go.Proofs.Ytjoljmkedghcbaa
open Go.RowKit
set_option linter.unusedVariables false
set_option linter.unusedSimpArgs false

set_option maxHeartbeats 8000000 in
set_option maxRecDepth 1000000 in
theorem l5_loop (Q0 : Exit → Act → World → Prop) (W : World) (gm g3 g4 G : Nat) (cur : Array Value) (T : List UInt8) (q : Nat) (s : St) (c0 c1 c2 c3 c4 c5 c6 c7 c8 c10 c12 c13 c14 c15 c16 c17 c18 c19 c20 c21 c22 c23 c24 c25 c26 c27 c28 c29 c30 c31 c32 c33 c34 c35 c36 c37 c38 c39 c40 c41 c42 c43 c44 c45 c46 c47 c48 c49 c50 c51 c52 c53 c54 c55 c56 c57 c58 c59 c60 c61 c62 c63 c64 c65 c66 c67 c68 c69 c70 c71 c72 c73 c74 c75 c76 c77 c78 c79 c80 c81 c82 c83 c84 c85 c86 c87 c88 c89 c90 c91 c92 c93 c94 c95 c96 c97 c98 c99 c100 c101 c102 c103 c104 c105 c106 c107 c108 c109 c110 c111 c112 c113 c114 c115 c116 c117 c118 c119 c120 c121 c122 c123 c124 c125 c126 c127 c128 c129 c130 c131 c132 c133 c134 c135 c136 c137 c138 c139 c140 c141 c142 c143 c144 c145 c146 c147 c148 c149 c150 c151 c152 c153 c154 c155 c156 c157 c158 c159 c160 c161 c162 c163 c164 c165 c166 c167 c168 c169 c170 c171 c172 c173 c174 c175 c176 c177 c178 c179 c180 c181 c182 c183 c184 c185 c186 c187 c188 c189 c190 c191 c192 c193 c194 c195 c196 c197 c198 c199 c200 c201 c202 c203 c204 c205 c206 c207 c208 c209 c210 c211 c212 c213 c214 c215 c216 c217 c218 c219 c220 c221 c222 c223 c224 c225 c226 c227 c228 c229 c230 c231 c232 c233 c234 c235 c236 c237 c238 c239 c240 c241 c242 c243 c244 c245 c246 c247 c248 c249 c250 c251 c252 c253 c254 c255 c256 c257 c258 c259 c260 c261 c262 c263 c264 c265 c266 c267 c268 c269 c270 c271 c272 c273 c274 c275 c276 c277 c278 c279 c280 c281 : Value) (w : World)
    (hne : gm ≠ G ∧ g3 ≠ G ∧ g4 ≠ G ∧ W.heap.size ≤ G)
    (hstart : w.heap[G]? = some (.cells ((filled (blkL T q) 16).map qv).toArray 59 (0, 0)) ∧ RE W gm cur g3 g4 s w)
    (hexit : ∀ (u12 u13 u106 u107 u108 u109 u110 u111 u112 u113 u114 u115 u116 u117 u118 u119 u120 u121 u122 u123 u124 u125 u126 u127 u128 u129 u130 u131 u132 u133 u134 u135 u136 u137 u138 u139 u140 u141 u142 u143 u144 u145 u146 u147 u148 u149 u150 u151 u152 u153 u154 u155 u156 u157 u158 : Value) (w' : World), w'.heap[G]? = some (.cells ((filled (blkL T q) 64).map qv).toArray 59 (0, 0)) ∧ RE W gm cur g3 g4 s w' → Q0 (.exit 8) ⟨#[c0, c1, c2, c3, c4, c5, c6, c7, c8, .pointer (some ⟨G, 0, none⟩), c10, .int .i64 64, u12, u13, c14, c15, c16, c17, c18, c19, c20, c21, c22, c23, c24, c25, c26, c27, c28, c29, c30, c31, c32, c33, c34, c35, c36, c37, c38, c39, c40, c41, c42, c43, c44, c45, c46, c47, c48, c49, c50, c51, c52, c53, c54, c55, c56, c57, c58, c59, c60, c61, c62, c63, c64, c65, c66, c67, c68, c69, c70, c71, c72, c73, c74, c75, c76, c77, c78, c79, c80, c81, c82, c83, c84, c85, c86, c87, c88, c89, c90, c91, c92, c93, c94, c95, c96, c97, c98, c99, c100, c101, c102, c103, c104, c105, u106, u107, u108, u109, u110, u111, u112, u113, u114, u115, u116, u117, u118, u119, u120, u121, u122, u123, u124, u125, u126, u127, u128, u129, u130, u131, u132, u133, u134, u135, u136, u137, u138, u139, u140, u141, u142, u143, u144, u145, u146, u147, u148, u149, u150, u151, u152, u153, u154, u155, u156, u157, u158, c159, c160, c161, c162, c163, c164, c165, c166, c167, c168, c169, c170, c171, c172, c173, c174, c175, c176, c177, c178, c179, c180, c181, c182, c183, c184, c185, c186, c187, c188, c189, c190, c191, c192, c193, c194, c195, c196, c197, c198, c199, c200, c201, c202, c203, c204, c205, c206, c207, c208, c209, c210, c211, c212, c213, c214, c215, c216, c217, c218, c219, c220, c221, c222, c223, c224, c225, c226, c227, c228, c229, c230, c231, c232, c233, c234, c235, c236, c237, c238, c239, c240, c241, c242, c243, c244, c245, c246, c247, c248, c249, c250, c251, c252, c253, c254, c255, c256, c257, c258, c259, c260, c261, c262, c263, c264, c265, c266, c267, c268, c269, c270, c271, c272, c273, c274, c275, c276, c277, c278, c279, c280, c281], []⟩ w') :
    Code.wp Try.prog (Code.loop (loopAt 4)) Q0 ⟨#[c0, c1, c2, c3, c4, c5, c6, c7, c8, .pointer (some ⟨G, 0, none⟩), c10, .int .i64 16, c12, c13, c14, c15, c16, c17, c18, c19, c20, c21, c22, c23, c24, c25, c26, c27, c28, c29, c30, c31, c32, c33, c34, c35, c36, c37, c38, c39, c40, c41, c42, c43, c44, c45, c46, c47, c48, c49, c50, c51, c52, c53, c54, c55, c56, c57, c58, c59, c60, c61, c62, c63, c64, c65, c66, c67, c68, c69, c70, c71, c72, c73, c74, c75, c76, c77, c78, c79, c80, c81, c82, c83, c84, c85, c86, c87, c88, c89, c90, c91, c92, c93, c94, c95, c96, c97, c98, c99, c100, c101, c102, c103, c104, c105, c106, c107, c108, c109, c110, c111, c112, c113, c114, c115, c116, c117, c118, c119, c120, c121, c122, c123, c124, c125, c126, c127, c128, c129, c130, c131, c132, c133, c134, c135, c136, c137, c138, c139, c140, c141, c142, c143, c144, c145, c146, c147, c148, c149, c150, c151, c152, c153, c154, c155, c156, c157, c158, c159, c160, c161, c162, c163, c164, c165, c166, c167, c168, c169, c170, c171, c172, c173, c174, c175, c176, c177, c178, c179, c180, c181, c182, c183, c184, c185, c186, c187, c188, c189, c190, c191, c192, c193, c194, c195, c196, c197, c198, c199, c200, c201, c202, c203, c204, c205, c206, c207, c208, c209, c210, c211, c212, c213, c214, c215, c216, c217, c218, c219, c220, c221, c222, c223, c224, c225, c226, c227, c228, c229, c230, c231, c232, c233, c234, c235, c236, c237, c238, c239, c240, c241, c242, c243, c244, c245, c246, c247, c248, c249, c250, c251, c252, c253, c254, c255, c256, c257, c258, c259, c260, c261, c262, c263, c264, c265, c266, c267, c268, c269, c270, c271, c272, c273, c274, c275, c276, c277, c278, c279, c280, c281], []⟩ w := by
  conv => arg 4; zeta
  conv => arg 2; arg 1; whnf
  have HS := Aside0.mk hstart
  have HX := Aside0.mk hexit
  clear hstart hexit
  have HGE := Aside0.mk hne
  clear hne
  go_loopw [11] (fun i wr => ∃ k : Nat, 16 ≤ k ∧ k ≤ 64 ∧ i = .int .i64 (k : Int) ∧ Aside0 (wr.heap[G]? = some (.cells ((filled (blkL T q) k).map qv).toArray 59 (0, 0)) ∧ RE W gm cur g3 g4 s wr)) (fun i wr => 64 - (intOf i).toNat)
  case atStart => exact ⟨16, by omega, by omega, rfl, HS⟩
  case round =>
    obtain ⟨k, hk16, hk, rfl, hs⟩ := hrel
    clear HS
    by_cases hlt3 : k < 64
    · have c15 : wr.cell? ⟨G, k - 15, none⟩ = _ := ((blk hs.out.1).1 (k - 15)).trans (filled_at (blkL T q) k (k - 15) (by omega))
      have c16 : wr.cell? ⟨G, k - 16, none⟩ = _ := ((blk hs.out.1).1 (k - 16)).trans (filled_at (blkL T q) k (k - 16) (by omega))
      have c2 : wr.cell? ⟨G, k - 2, none⟩ = _ := ((blk hs.out.1).1 (k - 2)).trans (filled_at (blkL T q) k (k - 2) (by omega))
      have c7 : wr.cell? ⟨G, k - 7, none⟩ = _ := ((blk hs.out.1).1 (k - 7)).trans (filled_at (blkL T q) k (k - 7) (by omega))
      obtain ⟨Nx, hN⟩ : ∃ Nx, Nx = nextW (sched (blkL T q) k) k := ⟨_, rfl⟩
      have HN := Aside0.mk hN
      unfold nextW at hN
      generalize (sched (blkL T q) k).getD (k - 15) 0 = x15 at *
      generalize (sched (blkL T q) k).getD (k - 16) 0 = x16 at *
      generalize (sched (blkL T q) k).getD (k - 2) 0 = x2 at *
      generalize (sched (blkL T q) k).getD (k - 7) 0 = x7 at *
      have HNN := Aside0.mk hN
      have HCC := Aside0.mk (And.intro c15 (And.intro c16 (And.intro c2 c7)))
      have k1 : (k : Int) < 64 := by omega
      have k2 : 16 ≤ (k : Int) := by omega
      have z1 : IntKind.i64.wrap ((k : Int) - 16) = (k : Int) - 16 := IntWalk.i64_in _ (by omega)
      have z4 : ((k : Int) - 16).toNat = k - 16 := by omega
      have y1 : IntKind.i64.wrap ((k : Int) - 7) = (k : Int) - 7 := IntWalk.i64_in _ (by omega)
      have y4 : ((k : Int) - 7).toNat = k - 7 := by omega
      have y5 : 7 ≤ (k : Int) := by omega
      have y6 : 7 ≤ k := by omega
      have x1 : IntKind.i64.wrap ((k : Int) - 15) = (k : Int) - 15 := IntWalk.i64_in _ (by omega)
      have x4 : ((k : Int) - 15).toNat = k - 15 := by omega
      have x5 : 15 ≤ (k : Int) := by omega
      have x6 : 15 ≤ k := by omega
      have v1 : IntKind.i64.wrap ((k : Int) - 2) = (k : Int) - 2 := IntWalk.i64_in _ (by omega)
      have v4 : ((k : Int) - 2).toNat = k - 2 := by omega
      have v5 : 2 ≤ (k : Int) := by omega
      have v6 : 2 ≤ k := by omega
      have o1 : (k : Int) - 15 < 64 := by omega
      have o2 : (k : Int) - 2 < 64 := by omega
      have o3 : (k : Int) - 7 < 64 := by omega
      have o4 : (k : Int) - 16 < 64 := by omega
      clear hN
      go_wp2_with fail
      go_quiet (first | ((go_at_call_of 40 (Value.int IntKind.i64 7); exact Calls.quiet_of (rot_7 _ _))) | ((go_at_call_of 40 (Value.int IntKind.i64 18); exact Calls.quiet_of (rot_18 _ _))))
      obtain ⟨wq, hwq⟩ : ∃ wq, wq = wr.drewN nq := ⟨_, rfl⟩
      have HS3 := Aside0.mk (show wq.cell? ⟨G, k - 15, none⟩ = some (.int .u32 (x15.toNat : Int)) ∧ wq.cell? ⟨G, k - 16, none⟩ = some (.int .u32 (x16.toNat : Int)) ∧ wq.cell? ⟨G, k - 2, none⟩ = some (.int .u32 (x2.toNat : Int)) ∧ wq.cell? ⟨G, k - 7, none⟩ = some (.int .u32 (x7.toNat : Int)) by rw [hwq]; exact HCC.out)
      rw [← hwq]
      have HWQ := Aside0.mk hwq
      clear c15 c16 c2 c7 hwq
      obtain ⟨c15, c16, c2, c7⟩ := HS3.out
      go_wp2_with fail
      go_quiet (first | ((go_at_call_of 40 (Value.int IntKind.i64 17); exact Calls.quiet_of (rot_17 _ _))) | ((go_at_call_of 40 (Value.int IntKind.i64 19); exact Calls.quiet_of (rot_19 _ _))))
      obtain ⟨wq2, hwq2⟩ : ∃ wq2, wq2 = wq.drewN nq := ⟨_, rfl⟩
      have HS4 := Aside0.mk (show wq2.cell? ⟨G, k - 15, none⟩ = some (.int .u32 (x15.toNat : Int)) ∧ wq2.cell? ⟨G, k - 16, none⟩ = some (.int .u32 (x16.toNat : Int)) ∧ wq2.cell? ⟨G, k - 2, none⟩ = some (.int .u32 (x2.toNat : Int)) ∧ wq2.cell? ⟨G, k - 7, none⟩ = some (.int .u32 (x7.toNat : Int)) by rw [hwq2]; exact HS3.out)
      have HS5 := Aside0.mk (show wq2.heap[G]? = some (.cells ((filled (blkL T q) k).map qv).toArray 59 (0, 0)) ∧ RE W gm cur g3 g4 s wq2 by
        rw [hwq2, HWQ.out]; exact ⟨hs.out.1, hs.out.2.below (below_drewN (below_drewN (Below.refl _ _) _) _)⟩)
      rw [← hwq2]
      clear c15 c16 c2 c7 hwq2
      obtain ⟨c15, c16, c2, c7⟩ := HS4.out
      have ck : wq2.cell? ⟨G, k, none⟩ = some (.int .u32 0) := by rw [(blk HS5.out.1).1 k]; exact zero_at _ k hlt3
      have fk := (blk HS5.out.1).2 k
      go_wp2_with fail
      refine wp_region_still_tail 15 (by kernel_rfl) (by kernel_rfl) ?_
      simp only [List.take_succ_cons, List.take_zero, List.drop_succ_cons, List.drop_zero]
      refine still_of_quiet _ _ ?_
      change wpQuiet _ _ (fun w' => w' = wq2.drew) _ _ _
      repeat (quiet_step (fail))
      refine wpQuiet_nil ?_
      change wpList _ _ _ _ _ wq2.drew
      go_wp2_with fail
      go_roundw
      case rel =>
        refine ⟨k + 1, by omega, by omega, by go_num, ⟨?_, ?_⟩⟩
        · rw [next_eq, ← HNN.out, ← filled_set (blkL T q) k hlt3 Nx (by rw [if_neg (by omega)]; exact HN.out)]
          exact arr_set (w := wq2.drew) HS5.out.1
        · exact (HS5.out.2.below ((Below.refl _ _).drew)).other (grown_set _ _ _ _) HGE.out.1 HGE.out.2.1 HGE.out.2.2.1 HGE.out.2.2.2
      case measure => simp [intOf]; omega
    · obtain rfl : k = 64 := by omega
      have H5 := hs.out
      clear hs
      go_wp2_with fail
      exact HX.out _ _ _ _ _ _ _ _ _ _ _ _ _ _ _ _ _ _ _ _ _ _ _ _ _ _ _ _ _ _ _ _ _ _ _ _ _ _ _ _ _ _ _ _ _ _ _ _ _ _ _ _ _ _ _ _ H5
end Go.Proofs.Ytjoljmkedghcbaa
