/-
  A block's rounds. No condition.
-/
import Derived.Test.YtjoljmkedghcbaaDigLoops
namespace Go.Proofs.Ytjoljmkedghcbaa
open Go.RowKit
set_option linter.unusedVariables false
set_option linter.unusedSimpArgs false

set_option maxHeartbeats 8000000 in
set_option maxRecDepth 1000000 in
theorem l6_loop (Q0 : Exit → Act → World → Prop) (W : World) (gm g3 g4 G Gv : Nat) (cur : Array Value) (T : List UInt8) (q : Nat) (s0 : St) (c0 c1 c2 c4 c5 c6 c7 c8 c10 c11 c12 c13 c16 c17 c18 c19 c20 c21 c22 c23 c24 c25 c26 c27 c28 c29 c30 c31 c32 c33 c34 c35 c36 c37 c38 c39 c40 c41 c42 c43 c44 c45 c46 c47 c48 c49 c50 c51 c52 c53 c54 c55 c56 c57 c58 c59 c60 c61 c62 c63 c64 c65 c66 c67 c68 c69 c70 c71 c72 c73 c74 c75 c76 c77 c78 c79 c80 c81 c82 c83 c84 c85 c86 c87 c88 c89 c90 c91 c92 c93 c94 c95 c96 c97 c98 c99 c100 c101 c102 c103 c104 c105 c106 c107 c108 c109 c110 c111 c112 c113 c114 c115 c116 c117 c118 c119 c120 c121 c122 c123 c124 c125 c126 c127 c128 c129 c130 c131 c132 c133 c134 c135 c136 c137 c138 c139 c140 c141 c142 c143 c144 c145 c146 c147 c148 c149 c150 c151 c152 c153 c154 c155 c156 c157 c158 c159 c160 c161 c162 c163 c164 c165 c166 c167 c168 c169 c170 c171 c172 c173 c174 c175 c176 c177 c178 c179 c180 c181 c182 c183 c184 c185 c186 c187 c188 c189 c190 c191 c192 c193 c194 c195 c196 c197 c198 c199 c200 c201 c202 c203 c204 c205 c206 c207 c208 c209 c210 c211 c212 c213 c214 c215 c216 c217 c218 c219 c220 c221 c222 c223 c224 c225 c226 c227 c228 c229 c230 c231 c232 c233 c234 c235 c236 c237 c238 c239 c240 c241 c242 c243 c244 c245 c246 c247 c248 c249 c250 c251 c252 c253 c254 c255 c256 c257 c258 c259 c260 c261 c262 c263 c264 c265 c266 c267 c268 c269 c270 c271 c272 c273 c274 c275 c276 c277 c278 c279 c280 c281 : Value) (w : World)
    (hne : gm ≠ Gv ∧ g3 ≠ Gv ∧ g4 ≠ Gv ∧ G ≠ Gv ∧ W.heap.size ≤ Gv)
    (hstart : w.heap[Gv]? = some (.cells (rnds (sched (blkL T q) 64) s0 0).vs 53 (0, 0)) ∧ w.heap[G]? = some (.cells ((sched (blkL T q) 64).map qv).toArray 59 (0, 0)) ∧ RE W gm cur g3 g4 s0 w)
    (hexit : ∀ (u16 u17 u18 u19 u160 u161 u162 u163 u164 u165 u166 u167 u168 u169 u170 u171 u172 u173 u174 u175 u176 u177 u178 u179 u180 u181 u182 u183 u184 u185 u186 u187 u188 u189 u190 u191 u192 u193 u194 u195 u196 u197 u198 u199 u200 u201 u202 u203 u204 u205 u206 u207 u208 u209 u210 u211 u212 u213 u214 u215 u216 u217 u218 u219 u220 u221 u222 u223 u224 u225 u226 u227 u228 u229 u230 u231 u232 u233 u234 u235 u236 u237 u238 u239 u240 u241 : Value) (w' : World), w'.heap[Gv]? = some (.cells (rnds (sched (blkL T q) 64) s0 64).vs 53 (0, 0)) ∧ w'.heap[G]? = some (.cells ((sched (blkL T q) 64).map qv).toArray 59 (0, 0)) ∧ RE W gm cur g3 g4 s0 w' → Q0 (.exit 10) ⟨#[c0, c1, c2, .pointer (some ⟨g3, 0, none⟩), c4, c5, c6, c7, c8, .pointer (some ⟨G, 0, none⟩), c10, c11, c12, c13, .pointer (some ⟨Gv, 0, none⟩), .int .i64 64, u16, u17, u18, u19, c20, c21, c22, c23, c24, c25, c26, c27, c28, c29, c30, c31, c32, c33, c34, c35, c36, c37, c38, c39, c40, c41, c42, c43, c44, c45, c46, c47, c48, c49, c50, c51, c52, c53, c54, c55, c56, c57, c58, c59, c60, c61, c62, c63, c64, c65, c66, c67, c68, c69, c70, c71, c72, c73, c74, c75, c76, c77, c78, c79, c80, c81, c82, c83, c84, c85, c86, c87, c88, c89, c90, c91, c92, c93, c94, c95, c96, c97, c98, c99, c100, c101, c102, c103, c104, c105, c106, c107, c108, c109, c110, c111, c112, c113, c114, c115, c116, c117, c118, c119, c120, c121, c122, c123, c124, c125, c126, c127, c128, c129, c130, c131, c132, c133, c134, c135, c136, c137, c138, c139, c140, c141, c142, c143, c144, c145, c146, c147, c148, c149, c150, c151, c152, c153, c154, c155, c156, c157, c158, c159, u160, u161, u162, u163, u164, u165, u166, u167, u168, u169, u170, u171, u172, u173, u174, u175, u176, u177, u178, u179, u180, u181, u182, u183, u184, u185, u186, u187, u188, u189, u190, u191, u192, u193, u194, u195, u196, u197, u198, u199, u200, u201, u202, u203, u204, u205, u206, u207, u208, u209, u210, u211, u212, u213, u214, u215, u216, u217, u218, u219, u220, u221, u222, u223, u224, u225, u226, u227, u228, u229, u230, u231, u232, u233, u234, u235, u236, u237, u238, u239, u240, u241, c242, c243, c244, c245, c246, c247, c248, c249, c250, c251, c252, c253, c254, c255, c256, c257, c258, c259, c260, c261, c262, c263, c264, c265, c266, c267, c268, c269, c270, c271, c272, c273, c274, c275, c276, c277, c278, c279, c280, c281], []⟩ w') :
    Code.wp Try.prog (Code.loop (loopAt 5)) Q0 ⟨#[c0, c1, c2, .pointer (some ⟨g3, 0, none⟩), c4, c5, c6, c7, c8, .pointer (some ⟨G, 0, none⟩), c10, c11, c12, c13, .pointer (some ⟨Gv, 0, none⟩), .int .i64 0, c16, c17, c18, c19, c20, c21, c22, c23, c24, c25, c26, c27, c28, c29, c30, c31, c32, c33, c34, c35, c36, c37, c38, c39, c40, c41, c42, c43, c44, c45, c46, c47, c48, c49, c50, c51, c52, c53, c54, c55, c56, c57, c58, c59, c60, c61, c62, c63, c64, c65, c66, c67, c68, c69, c70, c71, c72, c73, c74, c75, c76, c77, c78, c79, c80, c81, c82, c83, c84, c85, c86, c87, c88, c89, c90, c91, c92, c93, c94, c95, c96, c97, c98, c99, c100, c101, c102, c103, c104, c105, c106, c107, c108, c109, c110, c111, c112, c113, c114, c115, c116, c117, c118, c119, c120, c121, c122, c123, c124, c125, c126, c127, c128, c129, c130, c131, c132, c133, c134, c135, c136, c137, c138, c139, c140, c141, c142, c143, c144, c145, c146, c147, c148, c149, c150, c151, c152, c153, c154, c155, c156, c157, c158, c159, c160, c161, c162, c163, c164, c165, c166, c167, c168, c169, c170, c171, c172, c173, c174, c175, c176, c177, c178, c179, c180, c181, c182, c183, c184, c185, c186, c187, c188, c189, c190, c191, c192, c193, c194, c195, c196, c197, c198, c199, c200, c201, c202, c203, c204, c205, c206, c207, c208, c209, c210, c211, c212, c213, c214, c215, c216, c217, c218, c219, c220, c221, c222, c223, c224, c225, c226, c227, c228, c229, c230, c231, c232, c233, c234, c235, c236, c237, c238, c239, c240, c241, c242, c243, c244, c245, c246, c247, c248, c249, c250, c251, c252, c253, c254, c255, c256, c257, c258, c259, c260, c261, c262, c263, c264, c265, c266, c267, c268, c269, c270, c271, c272, c273, c274, c275, c276, c277, c278, c279, c280, c281], []⟩ w := by
  conv => arg 4; zeta
  conv => arg 2; arg 1; whnf
  have HS := Aside0.mk hstart
  have HX := Aside0.mk hexit
  clear hstart hexit
  have HGV := Aside0.mk hne
  clear hne
  go_loopw [15] (fun i wr => ∃ k : Nat, k ≤ 64 ∧ i = .int .i64 (k : Int) ∧ Aside0 (wr.heap[Gv]? = some (.cells (rnds (sched (blkL T q) 64) s0 k).vs 53 (0, 0)) ∧ wr.heap[G]? = some (.cells ((sched (blkL T q) 64).map qv).toArray 59 (0, 0)) ∧ RE W gm cur g3 g4 s0 wr)) (fun i wr => 64 - (intOf i).toNat)
  case atStart => exact ⟨0, by omega, rfl, HS⟩
  case round =>
    obtain ⟨k, hk, rfl, hs⟩ := hrel
    clear HS
    by_cases hlt4 : k < 64
    · have HR := Aside0.mk (RC_of hs.out.2.2.2.1 hs.out.2.1 hs.out.1 hlt4 (sched_length (blkL T q) 64))
      obtain ⟨t, ht⟩ : ∃ t, t = rnds (sched (blkL T q) 64) s0 k := ⟨_, rfl⟩
      obtain ⟨kk, hkk⟩ : ∃ t, t = Ks.getD k 0 := ⟨_, rfl⟩
      obtain ⟨ww, hww⟩ : ∃ t, t = (sched (blkL T q) 64).getD k 0 := ⟨_, rfl⟩
      rw [← ht, ← hkk, ← hww] at HR
      have HT6 := Aside0.mk (And.intro ht (And.intro hkk hww))
      have k1 : (k : Int) < 64 := by omega
      clear ht hkk hww
      obtain ⟨c0, c1, c2, c3, c4', c5', c6, c7, ck, cw⟩ := HR.out
      go_wp2_with fail
      go_quiet (fail)
      obtain ⟨wq, hwq⟩ : ∃ wq, wq = wr.drewN nq := ⟨_, rfl⟩
      have HS3 := Aside0.mk (show RC wq g3 G Gv k t kk ww by rw [hwq]; exact RC_drewN HR.out nq)
      rw [← hwq]
      have HWQ := Aside0.mk hwq
      clear c0 c1 c2 c3 c4' c5' c6 c7 ck cw hwq
      obtain ⟨c0, c1, c2, c3, c4', c5', c6, c7, ck, cw⟩ := HS3.out
      go_wp2_with fail
      go_quiet (first | ((go_at_call_of 40 (Value.int IntKind.i64 6); exact Calls.quiet_of (rot_6 _ _))) | ((go_at_call_of 40 (Value.int IntKind.i64 11); exact Calls.quiet_of (rot_11 _ _))) | ((go_at_call_of 40 (Value.int IntKind.i64 25); exact Calls.quiet_of (rot_25 _ _))))
      obtain ⟨wq2, hwq2⟩ : ∃ wq2, wq2 = wq.drewN nq := ⟨_, rfl⟩
      have HS4 := Aside0.mk (show RC wq2 g3 G Gv k t kk ww by rw [hwq2]; exact RC_drewN HS3.out nq)
      rw [← hwq2]
      have HWQ2 := Aside0.mk hwq2
      clear c0 c1 c2 c3 c4' c5' c6 c7 ck cw hwq2
      obtain ⟨c0, c1, c2, c3, c4', c5', c6, c7, ck, cw⟩ := HS4.out
      go_wp2_with fail
      rw [one_eq]
      obtain ⟨o1, ho1⟩ : ∃ o1, o1 = rOne t kk ww := ⟨_, rfl⟩
      rw [← ho1]
      have HO1 := Aside0.mk ho1
      clear ho1
      go_quiet (first | ((go_at_call_of 40 (Value.int IntKind.i64 2); exact Calls.quiet_of (rot_2 _ _))) | ((go_at_call_of 40 (Value.int IntKind.i64 13); exact Calls.quiet_of (rot_13 _ _))) | ((go_at_call_of 40 (Value.int IntKind.i64 22); exact Calls.quiet_of (rot_22 _ _))))
      obtain ⟨wq3, hwq3⟩ : ∃ wq3, wq3 = wq2.drewN nq := ⟨_, rfl⟩
      have HS5 := Aside0.mk (show RC wq3 g3 G Gv k t kk ww by rw [hwq3]; exact RC_drewN HS4.out nq)
      have HS6 := Aside0.mk (show wq3.heap = wr.heap ∧ RE W gm cur g3 g4 s0 wq3 by
        rw [hwq3, HWQ2.out, HWQ.out]
        exact ⟨rfl, hs.out.2.2.below (below_drewN (below_drewN (below_drewN (Below.refl _ _) _) _) _)⟩)
      rw [← hwq3]
      clear c0 c1 c2 c3 c4' c5' c6 c7 ck cw hwq3
      obtain ⟨c0, c1, c2, c3, c4', c5', c6, c7, ck, cw⟩ := HS5.out
      have HG7 := Aside0.mk (show wq3.heap[Gv]? = some (.cells t.vs 53 (0, 0)) by rw [HS6.out.1, HT6.out.1]; exact hs.out.1)
      go_wp2_with (refine wpList_store_arr rfl 53 (.tmp 14) (.tmp 241) rfl Gv _ _ 53 rfl rfl HG7.out (by rfl) info_w8 (by simp [Value.oneCell']) ?_; intro w7 hh5 hgr5)
      rw [two_eq', q_sum2] at hh5
      have hh6 : w7.heap[Gv]? = some (.cells (rnds (sched (blkL T q) 64) s0 (k + 1)).vs 53 (0, 0)) := by
        rw [hh5, rnds, ← HT6.out.1, ← HT6.out.2.1, ← HT6.out.2.2, HO1.out]; rfl
      have hh7 : w7.heap[G]? = some (.cells ((sched (blkL T q) 64).map qv).toArray 59 (0, 0)) := by
        have h' : wq3.heap[G]? = some (.cells ((sched (blkL T q) 64).map qv).toArray 59 (0, 0)) := by rw [HS6.out.1]; exact hs.out.2.1
        exact (hgr5.block _ (blk_lt h') (fun e => HGV.out.2.2.2.1 (Option.some.inj e))).trans h'
      have HH8 := Aside0.mk (And.intro hh6 (And.intro hh7 (HS6.out.2.other hgr5 HGV.out.1 HGV.out.2.1 HGV.out.2.2.1 HGV.out.2.2.2.2)))
      clear hh5 hh6 hh7 hgr5 c0 c1 c2 c3 c4' c5' c6 c7 ck cw
      go_roundw
      case rel => exact ⟨k + 1, by omega, by go_num, HH8⟩
      case measure => simp [intOf]; omega
    · obtain rfl : k = 64 := by omega
      have H5 := hs.out
      clear hs
      go_wp2_with fail
      exact HX.out _ _ _ _ _ _ _ _ _ _ _ _ _ _ _ _ _ _ _ _ _ _ _ _ _ _ _ _ _ _ _ _ _ _ _ _ _ _ _ _ _ _ _ _ _ _ _ _ _ _ _ _ _ _ _ _ _ _ _ _ _ _ _ _ _ _ _ _ _ _ _ _ _ _ _ _ _ _ _ _ _ _ _ _ _ _ _ H5
end Go.Proofs.Ytjoljmkedghcbaa
