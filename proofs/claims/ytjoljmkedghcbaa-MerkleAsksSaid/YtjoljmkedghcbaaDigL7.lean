/-
  A block's sums. No condition.
-/
import Derived.Test.YtjoljmkedghcbaaDigLoops
namespace Go.Proofs.Ytjoljmkedghcbaa
open Go.RowKit
set_option linter.unusedVariables false
set_option linter.unusedSimpArgs false

set_option maxHeartbeats 8000000 in
set_option maxRecDepth 1000000 in
theorem l7_loop (Q0 : Exit → Act → World → Prop) (W : World) (gm g3 g4 Gv : Nat) (cur : Array Value) (s0 t : St) (c0 c1 c2 c3 c5 c6 c7 c8 c9 c10 c11 c12 c13 c15 c16 c17 c18 c19 c21 c22 c23 c24 c25 c26 c27 c28 c29 c30 c31 c32 c33 c34 c35 c36 c37 c38 c39 c40 c41 c42 c43 c44 c45 c46 c47 c48 c49 c50 c51 c52 c53 c54 c55 c56 c57 c58 c59 c60 c61 c62 c63 c64 c65 c66 c67 c68 c69 c70 c71 c72 c73 c74 c75 c76 c77 c78 c79 c80 c81 c82 c83 c84 c85 c86 c87 c88 c89 c90 c91 c92 c93 c94 c95 c96 c97 c98 c99 c100 c101 c102 c103 c104 c105 c106 c107 c108 c109 c110 c111 c112 c113 c114 c115 c116 c117 c118 c119 c120 c121 c122 c123 c124 c125 c126 c127 c128 c129 c130 c131 c132 c133 c134 c135 c136 c137 c138 c139 c140 c141 c142 c143 c144 c145 c146 c147 c148 c149 c150 c151 c152 c153 c154 c155 c156 c157 c158 c159 c160 c161 c162 c163 c164 c165 c166 c167 c168 c169 c170 c171 c172 c173 c174 c175 c176 c177 c178 c179 c180 c181 c182 c183 c184 c185 c186 c187 c188 c189 c190 c191 c192 c193 c194 c195 c196 c197 c198 c199 c200 c201 c202 c203 c204 c205 c206 c207 c208 c209 c210 c211 c212 c213 c214 c215 c216 c217 c218 c219 c220 c221 c222 c223 c224 c225 c226 c227 c228 c229 c230 c231 c232 c233 c234 c235 c236 c237 c238 c239 c240 c241 c242 c243 c244 c245 c246 c247 c248 c249 c250 c251 c252 c253 c254 c255 c256 c257 c258 c259 c260 c261 c262 c263 c264 c265 c266 c267 c268 c269 c270 c271 c272 c273 c274 c275 c276 c277 c278 c279 c280 c281 : Value) (w : World)
    (hne : gm ≠ g4 ∧ g3 ≠ g4 ∧ g4 ≠ Gv ∧ W.heap.size ≤ g4)
    (hstart : w.heap[g4]? = some (.cells ((part s0 t 0).map qv).toArray 53 (0, 0)) ∧ w.heap[Gv]? = some (.cells (t.l.map qv).toArray 53 (0, 0)) ∧ w.heap[gm]? = some (.cells cur 5 (0, 0)) ∧ w.heap[g3]? = some (.cells (Ks.map qv).toArray 59 (0, 0)) ∧ Below W.heap.size W w)
    (hexit : ∀ (u242 u243 u244 u245 u246 u247 u248 u249 u250 u251 u252 u253 u254 : Value) (w' : World), w'.heap[g4]? = some (.cells ((part s0 t 8).map qv).toArray 53 (0, 0)) ∧ w'.heap[Gv]? = some (.cells (t.l.map qv).toArray 53 (0, 0)) ∧ w'.heap[gm]? = some (.cells cur 5 (0, 0)) ∧ w'.heap[g3]? = some (.cells (Ks.map qv).toArray 59 (0, 0)) ∧ Below W.heap.size W w' → Q0 (.exit 12) ⟨#[c0, c1, c2, c3, .pointer (some ⟨g4, 0, none⟩), c5, c6, c7, c8, c9, c10, c11, c12, c13, .pointer (some ⟨Gv, 0, none⟩), c15, c16, c17, c18, c19, .int .i64 8, c21, c22, c23, c24, c25, c26, c27, c28, c29, c30, c31, c32, c33, c34, c35, c36, c37, c38, c39, c40, c41, c42, c43, c44, c45, c46, c47, c48, c49, c50, c51, c52, c53, c54, c55, c56, c57, c58, c59, c60, c61, c62, c63, c64, c65, c66, c67, c68, c69, c70, c71, c72, c73, c74, c75, c76, c77, c78, c79, c80, c81, c82, c83, c84, c85, c86, c87, c88, c89, c90, c91, c92, c93, c94, c95, c96, c97, c98, c99, c100, c101, c102, c103, c104, c105, c106, c107, c108, c109, c110, c111, c112, c113, c114, c115, c116, c117, c118, c119, c120, c121, c122, c123, c124, c125, c126, c127, c128, c129, c130, c131, c132, c133, c134, c135, c136, c137, c138, c139, c140, c141, c142, c143, c144, c145, c146, c147, c148, c149, c150, c151, c152, c153, c154, c155, c156, c157, c158, c159, c160, c161, c162, c163, c164, c165, c166, c167, c168, c169, c170, c171, c172, c173, c174, c175, c176, c177, c178, c179, c180, c181, c182, c183, c184, c185, c186, c187, c188, c189, c190, c191, c192, c193, c194, c195, c196, c197, c198, c199, c200, c201, c202, c203, c204, c205, c206, c207, c208, c209, c210, c211, c212, c213, c214, c215, c216, c217, c218, c219, c220, c221, c222, c223, c224, c225, c226, c227, c228, c229, c230, c231, c232, c233, c234, c235, c236, c237, c238, c239, c240, c241, u242, u243, u244, u245, u246, u247, u248, u249, u250, u251, u252, u253, u254, c255, c256, c257, c258, c259, c260, c261, c262, c263, c264, c265, c266, c267, c268, c269, c270, c271, c272, c273, c274, c275, c276, c277, c278, c279, c280, c281], []⟩ w') :
    Code.wp Try.prog (Code.loop (loopAt 6)) Q0 ⟨#[c0, c1, c2, c3, .pointer (some ⟨g4, 0, none⟩), c5, c6, c7, c8, c9, c10, c11, c12, c13, .pointer (some ⟨Gv, 0, none⟩), c15, c16, c17, c18, c19, .int .i64 0, c21, c22, c23, c24, c25, c26, c27, c28, c29, c30, c31, c32, c33, c34, c35, c36, c37, c38, c39, c40, c41, c42, c43, c44, c45, c46, c47, c48, c49, c50, c51, c52, c53, c54, c55, c56, c57, c58, c59, c60, c61, c62, c63, c64, c65, c66, c67, c68, c69, c70, c71, c72, c73, c74, c75, c76, c77, c78, c79, c80, c81, c82, c83, c84, c85, c86, c87, c88, c89, c90, c91, c92, c93, c94, c95, c96, c97, c98, c99, c100, c101, c102, c103, c104, c105, c106, c107, c108, c109, c110, c111, c112, c113, c114, c115, c116, c117, c118, c119, c120, c121, c122, c123, c124, c125, c126, c127, c128, c129, c130, c131, c132, c133, c134, c135, c136, c137, c138, c139, c140, c141, c142, c143, c144, c145, c146, c147, c148, c149, c150, c151, c152, c153, c154, c155, c156, c157, c158, c159, c160, c161, c162, c163, c164, c165, c166, c167, c168, c169, c170, c171, c172, c173, c174, c175, c176, c177, c178, c179, c180, c181, c182, c183, c184, c185, c186, c187, c188, c189, c190, c191, c192, c193, c194, c195, c196, c197, c198, c199, c200, c201, c202, c203, c204, c205, c206, c207, c208, c209, c210, c211, c212, c213, c214, c215, c216, c217, c218, c219, c220, c221, c222, c223, c224, c225, c226, c227, c228, c229, c230, c231, c232, c233, c234, c235, c236, c237, c238, c239, c240, c241, c242, c243, c244, c245, c246, c247, c248, c249, c250, c251, c252, c253, c254, c255, c256, c257, c258, c259, c260, c261, c262, c263, c264, c265, c266, c267, c268, c269, c270, c271, c272, c273, c274, c275, c276, c277, c278, c279, c280, c281], []⟩ w := by
  conv => arg 4; zeta
  conv => arg 2; arg 1; whnf
  have HS := Aside0.mk hstart
  have HX := Aside0.mk hexit
  clear hstart hexit
  have hne' := Aside0.mk hne
  clear hne
  go_loopw [20] (fun i wr => ∃ k : Nat, k ≤ 8 ∧ i = .int .i64 (k : Int) ∧ Aside0 (wr.heap[g4]? = some (.cells ((part s0 t k).map qv).toArray 53 (0, 0)) ∧ wr.heap[Gv]? = some (.cells (t.l.map qv).toArray 53 (0, 0)) ∧ wr.heap[gm]? = some (.cells cur 5 (0, 0)) ∧ wr.heap[g3]? = some (.cells (Ks.map qv).toArray 59 (0, 0)) ∧ Below W.heap.size W wr)) (fun i wr => 8 - (intOf i).toNat)
  case atStart => exact ⟨0, by omega, rfl, HS⟩
  case round =>
    obtain ⟨k, hk, rfl, hs⟩ := hrel
    clear HS
    by_cases hlt5 : k < 8
    · have c1 := arr_cell hs.out.1 (by rw [part_length s0 t k hk]; exact hlt5)
      rw [part_at s0 t k hlt5] at c1
      have c2 := arr_cell hs.out.2.1 (show k < t.l.length by exact hlt5)
      have f1 := (blk hs.out.1).2 k
      obtain ⟨tk, htk⟩ : ∃ z, z = t.l.getD k 0 := ⟨_, rfl⟩
      obtain ⟨sk, hsk⟩ : ∃ z, z = s0.l.getD k 0 := ⟨_, rfl⟩
      rw [← hsk] at c1
      rw [← htk] at c2
      have HK := Aside0.mk (And.intro htk hsk)
      have hb1' : (k : Int) < 8 := by omega
      have hb0' : (0 : Int) ≤ (k : Int) := by omega
      clear htk hsk
      go_wp2_with fail
      go_region
      go_wp2_with fail
      have e1 : ((part s0 t k).map qv).toArray.setIfInBounds k (.int .u32 (((sk + tk : UInt32).toNat : Nat) : Int)) = ((part s0 t (k + 1)).map qv).toArray := by rw [HK.out.1, HK.out.2]; exact part_set s0 t k hlt5
      rw [q_sum2]
      skip
      go_roundw
      case rel =>
        refine ⟨k + 1, by omega, by go_num, ⟨?_, ?_, ?_, ?_, ?_⟩⟩
        · rw [← e1]; exact arr_set hs.out.1
        · exact heap_set (Ne.symm hne'.out.2.2.1) hs.out.2.1
        · exact heap_set hne'.out.1 hs.out.2.2.1
        · exact heap_set (hne'.out.2.1) hs.out.2.2.2.1
        · exact (hs.out.2.2.2.2.setCell (hne'.out.2.2.2) _).drew
      case measure => simp [intOf]; omega
    · obtain rfl : k = 8 := by omega
      have H5 := hs.out
      clear hs
      go_wp2_with fail
      exact HX.out _ _ _ _ _ _ _ _ _ _ _ _ _ _ H5
end Go.Proofs.Ytjoljmkedghcbaa
