/-
  A block's sixteen words. No condition.
-/
import Derived.Test.YtjoljmkedghcbaaDigLoops
namespace Go.Proofs.Ytjoljmkedghcbaa
open Go.RowKit
set_option linter.unusedVariables false
set_option linter.unusedSimpArgs false

set_option maxHeartbeats 8000000 in
set_option maxRecDepth 1000000 in
theorem l4_loop (Q0 : Exit → Act → World → Prop) (W : World) (gm g3 g4 G : Nat) (cur : Array Value) (T : List UInt8) (q : Nat) (s : St) (cc : Nat) (c0 c1 c2 c3 c4 c6 c7 c11 c12 c13 c14 c15 c16 c17 c18 c19 c20 c21 c22 c23 c24 c25 c26 c27 c28 c29 c30 c31 c32 c33 c34 c35 c36 c37 c38 c39 c40 c41 c42 c43 c44 c45 c46 c47 c48 c49 c50 c51 c52 c53 c54 c55 c56 c57 c58 c59 c60 c61 c62 c63 c64 c65 c66 c67 c68 c69 c70 c71 c72 c73 c74 c75 c76 c77 c78 c79 c80 c81 c82 c83 c84 c85 c86 c87 c88 c89 c90 c91 c92 c93 c94 c95 c96 c97 c98 c99 c100 c101 c102 c103 c104 c105 c106 c107 c108 c109 c110 c111 c112 c113 c114 c115 c116 c117 c118 c119 c120 c121 c122 c123 c124 c125 c126 c127 c128 c129 c130 c131 c132 c133 c134 c135 c136 c137 c138 c139 c140 c141 c142 c143 c144 c145 c146 c147 c148 c149 c150 c151 c152 c153 c154 c155 c156 c157 c158 c159 c160 c161 c162 c163 c164 c165 c166 c167 c168 c169 c170 c171 c172 c173 c174 c175 c176 c177 c178 c179 c180 c181 c182 c183 c184 c185 c186 c187 c188 c189 c190 c191 c192 c193 c194 c195 c196 c197 c198 c199 c200 c201 c202 c203 c204 c205 c206 c207 c208 c209 c210 c211 c212 c213 c214 c215 c216 c217 c218 c219 c220 c221 c222 c223 c224 c225 c226 c227 c228 c229 c230 c231 c232 c233 c234 c235 c236 c237 c238 c239 c240 c241 c242 c243 c244 c245 c246 c247 c248 c249 c250 c251 c252 c253 c254 c255 c256 c257 c258 c259 c260 c261 c262 c263 c264 c265 c266 c267 c268 c269 c270 c271 c272 c273 c274 c275 c276 c277 c278 c279 c280 c281 : Value) (w : World)
    (hcur : cur.toList.take T.length = T.map bv) (hd2 : 64 * q + 64 ≤ T.length) (hTl : T.length ≤ 2000000000000) (hne : gm ≠ G ∧ g3 ≠ G ∧ g4 ≠ G ∧ W.heap.size ≤ G)
    (hstart : w.heap[G]? = some (.cells ((filled (blkL T q) 0).map qv).toArray 59 (0, 0)) ∧ RE W gm cur g3 g4 s w)
    (hexit : ∀ (u59 u60 u61 u62 u63 u64 u65 u66 u67 u68 u69 u70 u71 u72 u73 u74 u75 u76 u77 u78 u79 u80 u81 u82 u83 u84 u85 u86 u87 u88 u89 u90 u91 u92 u93 u94 u95 u96 u97 u98 u99 u100 u101 u102 u103 u104 u105 : Value) (w' : World), w'.heap[G]? = some (.cells ((filled (blkL T q) 16).map qv).toArray 59 (0, 0)) ∧ RE W gm cur g3 g4 s w' → Q0 (.exit 6) ⟨#[c0, c1, c2, c3, c4, .slice (some ⟨gm, 0, none⟩) T.length cc, c6, c7, .int .i64 (64 * (q : Int)), .pointer (some ⟨G, 0, none⟩), .int .i64 16, c11, c12, c13, c14, c15, c16, c17, c18, c19, c20, c21, c22, c23, c24, c25, c26, c27, c28, c29, c30, c31, c32, c33, c34, c35, c36, c37, c38, c39, c40, c41, c42, c43, c44, c45, c46, c47, c48, c49, c50, c51, c52, c53, c54, c55, c56, c57, c58, u59, u60, u61, u62, u63, u64, u65, u66, u67, u68, u69, u70, u71, u72, u73, u74, u75, u76, u77, u78, u79, u80, u81, u82, u83, u84, u85, u86, u87, u88, u89, u90, u91, u92, u93, u94, u95, u96, u97, u98, u99, u100, u101, u102, u103, u104, u105, c106, c107, c108, c109, c110, c111, c112, c113, c114, c115, c116, c117, c118, c119, c120, c121, c122, c123, c124, c125, c126, c127, c128, c129, c130, c131, c132, c133, c134, c135, c136, c137, c138, c139, c140, c141, c142, c143, c144, c145, c146, c147, c148, c149, c150, c151, c152, c153, c154, c155, c156, c157, c158, c159, c160, c161, c162, c163, c164, c165, c166, c167, c168, c169, c170, c171, c172, c173, c174, c175, c176, c177, c178, c179, c180, c181, c182, c183, c184, c185, c186, c187, c188, c189, c190, c191, c192, c193, c194, c195, c196, c197, c198, c199, c200, c201, c202, c203, c204, c205, c206, c207, c208, c209, c210, c211, c212, c213, c214, c215, c216, c217, c218, c219, c220, c221, c222, c223, c224, c225, c226, c227, c228, c229, c230, c231, c232, c233, c234, c235, c236, c237, c238, c239, c240, c241, c242, c243, c244, c245, c246, c247, c248, c249, c250, c251, c252, c253, c254, c255, c256, c257, c258, c259, c260, c261, c262, c263, c264, c265, c266, c267, c268, c269, c270, c271, c272, c273, c274, c275, c276, c277, c278, c279, c280, c281], []⟩ w') :
    Code.wp Try.prog (Code.loop (loopAt 3)) Q0 ⟨#[c0, c1, c2, c3, c4, .slice (some ⟨gm, 0, none⟩) T.length cc, c6, c7, .int .i64 (64 * (q : Int)), .pointer (some ⟨G, 0, none⟩), .int .i64 0, c11, c12, c13, c14, c15, c16, c17, c18, c19, c20, c21, c22, c23, c24, c25, c26, c27, c28, c29, c30, c31, c32, c33, c34, c35, c36, c37, c38, c39, c40, c41, c42, c43, c44, c45, c46, c47, c48, c49, c50, c51, c52, c53, c54, c55, c56, c57, c58, c59, c60, c61, c62, c63, c64, c65, c66, c67, c68, c69, c70, c71, c72, c73, c74, c75, c76, c77, c78, c79, c80, c81, c82, c83, c84, c85, c86, c87, c88, c89, c90, c91, c92, c93, c94, c95, c96, c97, c98, c99, c100, c101, c102, c103, c104, c105, c106, c107, c108, c109, c110, c111, c112, c113, c114, c115, c116, c117, c118, c119, c120, c121, c122, c123, c124, c125, c126, c127, c128, c129, c130, c131, c132, c133, c134, c135, c136, c137, c138, c139, c140, c141, c142, c143, c144, c145, c146, c147, c148, c149, c150, c151, c152, c153, c154, c155, c156, c157, c158, c159, c160, c161, c162, c163, c164, c165, c166, c167, c168, c169, c170, c171, c172, c173, c174, c175, c176, c177, c178, c179, c180, c181, c182, c183, c184, c185, c186, c187, c188, c189, c190, c191, c192, c193, c194, c195, c196, c197, c198, c199, c200, c201, c202, c203, c204, c205, c206, c207, c208, c209, c210, c211, c212, c213, c214, c215, c216, c217, c218, c219, c220, c221, c222, c223, c224, c225, c226, c227, c228, c229, c230, c231, c232, c233, c234, c235, c236, c237, c238, c239, c240, c241, c242, c243, c244, c245, c246, c247, c248, c249, c250, c251, c252, c253, c254, c255, c256, c257, c258, c259, c260, c261, c262, c263, c264, c265, c266, c267, c268, c269, c270, c271, c272, c273, c274, c275, c276, c277, c278, c279, c280, c281], []⟩ w := by
  conv => arg 4; zeta
  conv => arg 2; arg 1; whnf
  have HS := Aside0.mk hstart
  have HX := Aside0.mk hexit
  clear hstart hexit
  have HGE := Aside0.mk hne
  have hd : (64 * (q : Int)) + 64 ≤ (T.length : Int) := by omega
  have hq1 : (q : Int) ≤ 1000000000000 := by omega
  have dB : decide (64 * (q : Int) < (T.length : Int)) = true := by simp; omega
  clear hne
  go_loopw [10] (fun i wr => ∃ k : Nat, k ≤ 16 ∧ i = .int .i64 (k : Int) ∧ Aside0 (wr.heap[G]? = some (.cells ((filled (blkL T q) k).map qv).toArray 59 (0, 0)) ∧ RE W gm cur g3 g4 s wr)) (fun i wr => 16 - (intOf i).toNat)
  case atStart => exact ⟨0, by omega, rfl, HS⟩
  case round =>
    obtain ⟨k, hk, rfl, hs⟩ := hrel
    clear HS
    by_cases hlt2 : k < 16
    · have hj0 : 64 * q + 4 * k + 3 < T.length := by omega
      have m0 := cur_at hs.out.2.1 hcur (64 * q + 4 * k) (by omega)
      have m1 := cur_at hs.out.2.1 hcur (64 * q + 4 * k + 1) (by omega)
      have m2 := cur_at hs.out.2.1 hcur (64 * q + 4 * k + 2) (by omega)
      have m3 := cur_at hs.out.2.1 hcur (64 * q + 4 * k + 3) (by omega)
      have hwd := wordAt_blk T q k hlt2
      generalize T.getD (64 * q + 4 * k) 0 = x0 at *
      generalize T.getD (64 * q + 4 * k + 1) 0 = x1 at *
      generalize T.getD (64 * q + 4 * k + 2) 0 = x2 at *
      generalize T.getD (64 * q + 4 * k + 3) 0 = x3 at *
      have HWD := Aside0.mk hwd
      have ck : wr.cell? ⟨G, k, none⟩ = some (.int .u32 0) := by rw [(blk hs.out.1).1 k]; exact zero_at _ k (by omega)
      have fk := (blk hs.out.1).2 k
      have a1 : IntKind.i64.wrap (4 * (k : Int)) = 4 * (k : Int) := IntWalk.i64_in _ (by omega)
      have a2 : IntKind.i64.wrap (64 * (q : Int) + 4 * (k : Int)) = 64 * (q : Int) + 4 * (k : Int) := IntWalk.i64_in _ (by omega)
      have a3 : IntKind.i64.wrap (64 * (q : Int) + 4 * (k : Int) + 1) = 64 * (q : Int) + 4 * (k : Int) + 1 := IntWalk.i64_in _ (by omega)
      have a4 : IntKind.i64.wrap (64 * (q : Int) + 4 * (k : Int) + 2) = 64 * (q : Int) + 4 * (k : Int) + 2 := IntWalk.i64_in _ (by omega)
      have a5 : IntKind.i64.wrap (64 * (q : Int) + 4 * (k : Int) + 3) = 64 * (q : Int) + 4 * (k : Int) + 3 := IntWalk.i64_in _ (by omega)
      have p0 : 0 ≤ 64 * (q : Int) + 4 * (k : Int) := by omega
      have p1 : 0 ≤ 64 * (q : Int) + 4 * (k : Int) + 1 := by omega
      have p2 : 0 ≤ 64 * (q : Int) + 4 * (k : Int) + 2 := by omega
      have p3 : 0 ≤ 64 * (q : Int) + 4 * (k : Int) + 3 := by omega
      have l0 : 64 * (q : Int) + 4 * (k : Int) < (T.length : Int) := by omega
      have l1 : 64 * (q : Int) + 4 * (k : Int) + 1 < (T.length : Int) := by omega
      have l2 : 64 * (q : Int) + 4 * (k : Int) + 2 < (T.length : Int) := by omega
      have l3 : 64 * (q : Int) + 4 * (k : Int) + 3 < (T.length : Int) := by omega
      have n0 : (64 * (q : Int) + 4 * (k : Int)).toNat = 64 * q + 4 * k := by omega
      have n1 : (64 * (q : Int) + 4 * (k : Int) + 1).toNat = 64 * q + 4 * k + 1 := by omega
      have n2 : (64 * (q : Int) + 4 * (k : Int) + 2).toNat = 64 * q + 4 * k + 2 := by omega
      have n3 : (64 * (q : Int) + 4 * (k : Int) + 3).toNat = 64 * q + 4 * k + 3 := by omega
      have k1 : (k : Int) < 64 := by omega
      clear hwd
      go_wp2_with fail
      refine wp_region_still_tail 43 (by kernel_rfl) (by kernel_rfl) ?_
      simp only [List.take_succ_cons, List.take_zero, List.drop_succ_cons, List.drop_zero]
      refine still_of_quiet _ _ ?_
      change wpQuiet _ _ (fun w' => w' = wr.drew) _ _ _
      repeat (quiet_step (fail))
      refine wpQuiet_nil ?_
      change wpList _ _ _ _ _ wr.drew
      clear m0 m1 m2 m3 a1 a2 a3 a4 a5 p0 p1 p2 p3 l0 l1 l2 l3 n0 n1 n2 n3
      go_wp2_with fail
      go_roundw
      case rel =>
        refine ⟨k + 1, by omega, by go_num, ⟨?_, ?_⟩⟩
        · rw [word_eq, ← HWD.out, ← filled_set (blkL T q) k (by omega) (wordAt (blkL T q) k) (by rw [if_pos hlt2])]
          exact arr_set (w := wr.drew) hs.out.1
        · exact (hs.out.2.below ((Below.refl _ _).drew)).other (grown_set _ _ _ _) HGE.out.1 HGE.out.2.1 HGE.out.2.2.1 HGE.out.2.2.2
      case measure => simp [intOf]; omega
    · obtain rfl : k = 16 := by omega
      have H5 := hs.out
      clear hs
      go_wp2_with fail
      exact HX.out _ _ _ _ _ _ _ _ _ _ _ _ _ _ _ _ _ _ _ _ _ _ _ _ _ _ _ _ _ _ _ _ _ _ _ _ _ _ _ _ _ _ _ _ _ _ _ _ H5
end Go.Proofs.Ytjoljmkedghcbaa
