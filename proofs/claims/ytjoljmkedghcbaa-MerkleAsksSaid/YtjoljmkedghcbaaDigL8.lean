/-
  The sum's bytes. No condition.
-/
import Derived.Test.YtjoljmkedghcbaaDigLoops
namespace Go.Proofs.Ytjoljmkedghcbaa
open Go.RowKit
set_option linter.unusedVariables false
set_option linter.unusedSimpArgs false

set_option maxHeartbeats 8000000 in
set_option maxRecDepth 1000000 in
theorem l8_loop (Q0 : Exit → Act → World → Prop) (g4 : Nat) (S : St) (c0 c1 c2 c3 c5 c6 c7 c8 c9 c10 c11 c12 c13 c14 c15 c16 c17 c18 c19 c20 c23 c24 c25 c26 c27 c28 c29 c30 c31 c32 c33 c34 c35 c36 c37 c38 c39 c40 c41 c42 c43 c44 c45 c46 c47 c48 c49 c50 c51 c52 c53 c54 c55 c56 c57 c58 c59 c60 c61 c62 c63 c64 c65 c66 c67 c68 c69 c70 c71 c72 c73 c74 c75 c76 c77 c78 c79 c80 c81 c82 c83 c84 c85 c86 c87 c88 c89 c90 c91 c92 c93 c94 c95 c96 c97 c98 c99 c100 c101 c102 c103 c104 c105 c106 c107 c108 c109 c110 c111 c112 c113 c114 c115 c116 c117 c118 c119 c120 c121 c122 c123 c124 c125 c126 c127 c128 c129 c130 c131 c132 c133 c134 c135 c136 c137 c138 c139 c140 c141 c142 c143 c144 c145 c146 c147 c148 c149 c150 c151 c152 c153 c154 c155 c156 c157 c158 c159 c160 c161 c162 c163 c164 c165 c166 c167 c168 c169 c170 c171 c172 c173 c174 c175 c176 c177 c178 c179 c180 c181 c182 c183 c184 c185 c186 c187 c188 c189 c190 c191 c192 c193 c194 c195 c196 c197 c198 c199 c200 c201 c202 c203 c204 c205 c206 c207 c208 c209 c210 c211 c212 c213 c214 c215 c216 c217 c218 c219 c220 c221 c222 c223 c224 c225 c226 c227 c228 c229 c230 c231 c232 c233 c234 c235 c236 c237 c238 c239 c240 c241 c242 c243 c244 c245 c246 c247 c248 c249 c250 c251 c252 c253 c254 c255 c256 c257 c258 c259 c260 c261 c262 c263 c264 c265 c266 c267 c268 c269 c270 c271 c272 c273 c274 c275 c276 c277 c278 c279 c280 c281 : Value) (w : World)
    
    (hstart : w.heap[g4]? = some (.cells S.vs 53 (0, 0)))
    (hexit : ∀ (u21 u255 u256 u257 u258 u259 u260 u261 u262 u263 u264 u265 u266 u267 u268 u269 u270 u271 u272 u273 u274 u275 u276 u277 u278 u279 u280 : Value) (w' : World), Grow w w' u21 (outL S 8) → Q0 (.exit 14) ⟨#[c0, c1, c2, c3, .pointer (some ⟨g4, 0, none⟩), c5, c6, c7, c8, c9, c10, c11, c12, c13, c14, c15, c16, c17, c18, c19, c20, u21, .int .i64 8, c23, c24, c25, c26, c27, c28, c29, c30, c31, c32, c33, c34, c35, c36, c37, c38, c39, c40, c41, c42, c43, c44, c45, c46, c47, c48, c49, c50, c51, c52, c53, c54, c55, c56, c57, c58, c59, c60, c61, c62, c63, c64, c65, c66, c67, c68, c69, c70, c71, c72, c73, c74, c75, c76, c77, c78, c79, c80, c81, c82, c83, c84, c85, c86, c87, c88, c89, c90, c91, c92, c93, c94, c95, c96, c97, c98, c99, c100, c101, c102, c103, c104, c105, c106, c107, c108, c109, c110, c111, c112, c113, c114, c115, c116, c117, c118, c119, c120, c121, c122, c123, c124, c125, c126, c127, c128, c129, c130, c131, c132, c133, c134, c135, c136, c137, c138, c139, c140, c141, c142, c143, c144, c145, c146, c147, c148, c149, c150, c151, c152, c153, c154, c155, c156, c157, c158, c159, c160, c161, c162, c163, c164, c165, c166, c167, c168, c169, c170, c171, c172, c173, c174, c175, c176, c177, c178, c179, c180, c181, c182, c183, c184, c185, c186, c187, c188, c189, c190, c191, c192, c193, c194, c195, c196, c197, c198, c199, c200, c201, c202, c203, c204, c205, c206, c207, c208, c209, c210, c211, c212, c213, c214, c215, c216, c217, c218, c219, c220, c221, c222, c223, c224, c225, c226, c227, c228, c229, c230, c231, c232, c233, c234, c235, c236, c237, c238, c239, c240, c241, c242, c243, c244, c245, c246, c247, c248, c249, c250, c251, c252, c253, c254, u255, u256, u257, u258, u259, u260, u261, u262, u263, u264, u265, u266, u267, u268, u269, u270, u271, u272, u273, u274, u275, u276, u277, u278, u279, u280, c281], []⟩ w') :
    Code.wp Try.prog (Code.loop (loopAt 7)) Q0 ⟨#[c0, c1, c2, c3, .pointer (some ⟨g4, 0, none⟩), c5, c6, c7, c8, c9, c10, c11, c12, c13, c14, c15, c16, c17, c18, c19, c20, .slice none 0 0, .int .i64 0, c23, c24, c25, c26, c27, c28, c29, c30, c31, c32, c33, c34, c35, c36, c37, c38, c39, c40, c41, c42, c43, c44, c45, c46, c47, c48, c49, c50, c51, c52, c53, c54, c55, c56, c57, c58, c59, c60, c61, c62, c63, c64, c65, c66, c67, c68, c69, c70, c71, c72, c73, c74, c75, c76, c77, c78, c79, c80, c81, c82, c83, c84, c85, c86, c87, c88, c89, c90, c91, c92, c93, c94, c95, c96, c97, c98, c99, c100, c101, c102, c103, c104, c105, c106, c107, c108, c109, c110, c111, c112, c113, c114, c115, c116, c117, c118, c119, c120, c121, c122, c123, c124, c125, c126, c127, c128, c129, c130, c131, c132, c133, c134, c135, c136, c137, c138, c139, c140, c141, c142, c143, c144, c145, c146, c147, c148, c149, c150, c151, c152, c153, c154, c155, c156, c157, c158, c159, c160, c161, c162, c163, c164, c165, c166, c167, c168, c169, c170, c171, c172, c173, c174, c175, c176, c177, c178, c179, c180, c181, c182, c183, c184, c185, c186, c187, c188, c189, c190, c191, c192, c193, c194, c195, c196, c197, c198, c199, c200, c201, c202, c203, c204, c205, c206, c207, c208, c209, c210, c211, c212, c213, c214, c215, c216, c217, c218, c219, c220, c221, c222, c223, c224, c225, c226, c227, c228, c229, c230, c231, c232, c233, c234, c235, c236, c237, c238, c239, c240, c241, c242, c243, c244, c245, c246, c247, c248, c249, c250, c251, c252, c253, c254, c255, c256, c257, c258, c259, c260, c261, c262, c263, c264, c265, c266, c267, c268, c269, c270, c271, c272, c273, c274, c275, c276, c277, c278, c279, c280, c281], []⟩ w := by
  conv => arg 4; zeta
  conv => arg 2; arg 1; whnf
  have HS := Aside0.mk hstart
  have HX := Aside0.mk hexit
  clear hstart hexit
  obtain ⟨wf, rfl⟩ : ∃ wf, wf = w := ⟨_, rfl⟩
  have H80 := Aside0.mk (show Grow wf wf (.slice none 0 0) (outL S 0) from Grow.refl0 _)
  go_loopw [21, 22] (fun a i wr => ∃ k : Nat, k ≤ 8 ∧ i = .int .i64 (k : Int) ∧ Aside0 (Grow wf wr a (outL S k))) (fun a i wr => 8 - (intOf i).toNat)
  case atStart => exact ⟨0, by omega, rfl, H80⟩
  case round =>
    obtain ⟨k, hk, rfl, hs2⟩ := hrel
    clear H80
    by_cases hlt2 : k < 8
    · have c1 := arr_cell (l := S.l) (below_heap hs2.out.2 HS.out) (show k < S.l.length by exact hlt2)
      obtain ⟨xk, hxk⟩ : ∃ xk, xk = S.l.getD k 0 := ⟨_, rfl⟩
      rw [← hxk] at c1
      have HXK := Aside0.mk hxk
      have hb1' : (k : Int) < 8 := by omega
      have hb0' : (0 : Int) ≤ (k : Int) := by omega
      clear hxk
      go_wp2_with fail
      have hgd : Grow wf wr.drew u21 (outL S k) := ⟨own_below hs2.out.1 (Below.refl _ _).drew, hs2.out.2.drew⟩
      have HGD := Aside0.mk hgd
      clear hgd
      go_region_held3 (fun w' => w'.cell? ⟨g4, k, none⟩ = some (.int .u32 (xk.toNat : Int))) (first | exact c1 | exact cell_keep (((Below.refl _ _).drew).alloc (Nat.le_refl _) _) c1)
        ((refine step_append_grow rfl (by rfl) (.tmp 259) (.tmp 279) (by rfl) _ (outL S k) (bytesW xk) 4 rfl _ (bytes4 xk) (by rfl) (by rfl) HGD.out (by rw [outL_length]; simp [bytesW]; omega) ?_; intro v' w' hG; have HG := Aside0.mk hG; have c1 : w'.cell? ⟨g4, k, none⟩ = some (.int .u32 (xk.toNat : Int)) := (by have := arr_cell (l := S.l) (below_heap hG.2 HS.out) (show k < S.l.length by exact hlt2); rw [← HXK.out] at this; exact this); clear hG))
      all_goals
        have HG' := Aside0.mk (show Grow wf w' v' (outL S (k + 1)) by rw [outL]; have := HG.out; rw [HXK.out] at this; exact this)
        clear HG
        go_wp2_with fail
        go_roundw
        case rel => first | exact ⟨k + 1, by omega, by go_num, HG'⟩ | ((repeat apply Exists.intro); exact ⟨⟨k + 1, by omega, by go_num, HG'⟩, rfl⟩)
        case measure => simp [intOf]; omega
    · obtain rfl : k = 8 := by omega
      have H5 := hs2.out
      clear hs2
      go_wp2_with fail
      exact HX.out _ _ _ _ _ _ _ _ _ _ _ _ _ _ _ _ _ _ _ _ _ _ _ _ _ _ _ _ H5
end Go.Proofs.Ytjoljmkedghcbaa
