/-
  The reference's Sum, loop by loop. No condition but that the slice can be read.
-/
import Derived.Test.YtdikconhdbopdaaDigB
import Derived.Test.YtdikconhdbopdaaStillQ
namespace Go.Proofs.Ytdikconhdbopdaa
section
open Go.RowKit
set_option linter.unusedVariables false
set_option linter.unusedSimpArgs false

theorem rot_at (x : UInt32) (n : Nat) (z : Int) (hz : z = (n : Int)) (h1 : 1 ≤ n) (h2 : n ≤ 31) (w : World) :
    Calls Try.prog 48 #[.int .u32 (x.toNat : Int), .int .i64 z] w fun e w' => e = .returned (.int .u32 ((rotr x n).toNat : Int)) ∧ ∃ k, w' = w.drewN k := by
  subst hz
  have z1 : IntKind.i64.wrap (32 - (n : Int)) = 32 - (n : Int) := IntWalk.i64_in _ (by omega)
  have z2 : (0 : Int) ≤ 32 - (n : Int) := by omega
  have z3 : (32 - (n : Int)).toNat = 32 - n := by omega
  have z4 : min n 32 = n := by omega
  have z5 : min (32 - n) 32 = 32 - n := by omega
  have z6 : (n : Int) ≤ 32 := by omega
  go_enter Try.func48, Try.ntmps48
  go_wp2_with fail
  go_quiet (fail)
  go_wp2_with fail
  go_ret
  refine ⟨?_, _, rfl⟩
  have e2 := q_shl x (32 - n) (by omega)
  have e3 := q_shr x n (by omega)
  rw [IntKind.wrap_u32'] at e2
  show Ending.returned (Value.int IntKind.u32 (bits BinOp.or IntKind.u32 (↑x.toNat / 2 ^ n) (↑x.toNat * 2 ^ (32 - n) % 4294967296))) = _
  rw [e2, e3, q_or]
  rfl
theorem rot_2 (x : UInt32) (w : World) : Calls Try.prog 48 #[.int .u32 (x.toNat : Int), .int .i64 2] w fun e w' => e = .returned (.int .u32 ((rotr x 2).toNat : Int)) ∧ ∃ k, w' = w.drewN k := rot_at x 2 2 rfl (by decide) (by decide) w
theorem rot_6 (x : UInt32) (w : World) : Calls Try.prog 48 #[.int .u32 (x.toNat : Int), .int .i64 6] w fun e w' => e = .returned (.int .u32 ((rotr x 6).toNat : Int)) ∧ ∃ k, w' = w.drewN k := rot_at x 6 6 rfl (by decide) (by decide) w
theorem rot_7 (x : UInt32) (w : World) : Calls Try.prog 48 #[.int .u32 (x.toNat : Int), .int .i64 7] w fun e w' => e = .returned (.int .u32 ((rotr x 7).toNat : Int)) ∧ ∃ k, w' = w.drewN k := rot_at x 7 7 rfl (by decide) (by decide) w
theorem rot_11 (x : UInt32) (w : World) : Calls Try.prog 48 #[.int .u32 (x.toNat : Int), .int .i64 11] w fun e w' => e = .returned (.int .u32 ((rotr x 11).toNat : Int)) ∧ ∃ k, w' = w.drewN k := rot_at x 11 11 rfl (by decide) (by decide) w
theorem rot_13 (x : UInt32) (w : World) : Calls Try.prog 48 #[.int .u32 (x.toNat : Int), .int .i64 13] w fun e w' => e = .returned (.int .u32 ((rotr x 13).toNat : Int)) ∧ ∃ k, w' = w.drewN k := rot_at x 13 13 rfl (by decide) (by decide) w
theorem rot_17 (x : UInt32) (w : World) : Calls Try.prog 48 #[.int .u32 (x.toNat : Int), .int .i64 17] w fun e w' => e = .returned (.int .u32 ((rotr x 17).toNat : Int)) ∧ ∃ k, w' = w.drewN k := rot_at x 17 17 rfl (by decide) (by decide) w
theorem rot_18 (x : UInt32) (w : World) : Calls Try.prog 48 #[.int .u32 (x.toNat : Int), .int .i64 18] w fun e w' => e = .returned (.int .u32 ((rotr x 18).toNat : Int)) ∧ ∃ k, w' = w.drewN k := rot_at x 18 18 rfl (by decide) (by decide) w
theorem rot_19 (x : UInt32) (w : World) : Calls Try.prog 48 #[.int .u32 (x.toNat : Int), .int .i64 19] w fun e w' => e = .returned (.int .u32 ((rotr x 19).toNat : Int)) ∧ ∃ k, w' = w.drewN k := rot_at x 19 19 rfl (by decide) (by decide) w
theorem rot_22 (x : UInt32) (w : World) : Calls Try.prog 48 #[.int .u32 (x.toNat : Int), .int .i64 22] w fun e w' => e = .returned (.int .u32 ((rotr x 22).toNat : Int)) ∧ ∃ k, w' = w.drewN k := rot_at x 22 22 rfl (by decide) (by decide) w
theorem rot_25 (x : UInt32) (w : World) : Calls Try.prog 48 #[.int .u32 (x.toNat : Int), .int .i64 25] w fun e w' => e = .returned (.int .u32 ((rotr x 25).toNat : Int)) ∧ ∃ k, w' = w.drewN k := rot_at x 25 25 rfl (by decide) (by decide) w

set_option maxHeartbeats 2000000 in
set_option maxRecDepth 100000 in
theorem rounds_calls (w : World) : Calls Try.prog 47 #[] w fun e w' => e = .returned (.agg (Ks.map qv).toArray) ∧ Below w.heap.size w w' := by
  go_enter Try.func47, Try.ntmps47
  go_wp2_with (refine wpList_store_arr rfl 73 (.tmp 0) (.tmp 1) rfl w.heap.size (Ks.map qv).toArray _ 73 rfl (by kernel_rfl) (heap_new rfl) (by kernel_rfl) info_u32x64 (one_qv _) ?_; intro w' hg' hgr')
  refine bodyPost_ret (v := .agg (Ks.map qv).toArray) (results_cell_row rfl _ _ w.heap.size 73 _ (0, 0) _ rfl hg' Try.underlying73 rfl info_u32x64) rfl ⟨rfl, ?_⟩
  exact ((Below.refl _ _).alloc (Nat.le_refl _) _).grown hgr' (by simp) (fun k hk => by cases hk; exact Nat.le_refl _)
end

section
open Go.RowKit
set_option linter.unusedVariables false
set_option linter.unusedSimpArgs false

/-- What stands through the blocks: the message, the constants, the state. -/
def RE (w0 : World) (gm : Nat) (cur : Array Value) (g3 g4 : Nat) (s : St) (wr : World) : Prop :=
  wr.heap[gm]? = some (.cells cur 5 (0, 0)) ∧ wr.heap[g3]? = some (.cells (Ks.map qv).toArray 73 (0, 0)) ∧ wr.heap[g4]? = some (.cells s.vs 67 (0, 0)) ∧ Below w0.heap.size w0 wr

theorem RE.below {w0 w1 w2 : World} {gm g3 g4 : Nat} {cur : Array Value} {s : St} (h : RE w0 gm cur g3 g4 s w1) (hb : Below w1.heap.size w1 w2) : RE w0 gm cur g3 g4 s w2 :=
  ⟨below_heap hb h.1, below_heap hb h.2.1, below_heap hb h.2.2.1, below_step h.2.2.2 hb⟩
theorem RE.other {w0 w1 w2 : World} {gm g3 g4 g : Nat} {cur : Array Value} {s : St} (h : RE w0 gm cur g3 g4 s w1) (hg : w1.grownBy w2 (some g)) (h1 : gm ≠ g) (h2 : g3 ≠ g) (h3 : g4 ≠ g) (h4 : w0.heap.size ≤ g) : RE w0 gm cur g3 g4 s w2 :=
  ⟨(hg.block _ (blk_lt h.1) (fun e => h1 (Option.some.inj e))).trans h.1, (hg.block _ (blk_lt h.2.1) (fun e => h2 (Option.some.inj e))).trans h.2.1, (hg.block _ (blk_lt h.2.2.1) (fun e => h3 (Option.some.inj e))).trans h.2.2.1, h.2.2.2.grown hg h.2.2.2.size (fun k hk => by cases hk; exact h4)⟩
/-- A byte of the message. -/
theorem cur_at {w : World} {gm : Nat} {cur : Array Value} {T : List UInt8} (h : w.heap[gm]? = some (.cells cur 5 (0, 0))) (hc : cur.toList.take T.length = T.map bv) (j : Nat) (hj : j < T.length) : w.cell? ⟨gm, j, none⟩ = some (.int .u8 ((T.getD j 0).toNat : Int)) := by
  rw [(blk h).1 j]
  have h1 : (cur.toList.take T.length)[j]? = (T.map bv)[j]? := by rw [hc]
  rw [List.getElem?_take, if_pos hj, List.getElem?_map, List.getElem?_eq_getElem hj] at h1
  rw [← Array.getElem?_toList, h1]
  simp [bv, List.getElem?_eq_getElem hj]
/-- The q-th block. -/
def blkL (T : List UInt8) (q : Nat) : List UInt8 := (T.drop (64 * q)).take 64
theorem blkL_at (T : List UInt8) (q k : Nat) (hk : k < 64) : (blkL T q).getD k 0 = T.getD (64 * q + k) 0 := by
  unfold blkL
  rw [List.getD_eq_getElem?_getD, List.getElem?_take, if_pos hk, List.getElem?_drop, List.getD_eq_getElem?_getD]
theorem wordAt_blk (T : List UInt8) (q k : Nat) (hk : k < 16) : wordAt (blkL T q) k = wordL (T.getD (64 * q + 4 * k) 0) (T.getD (64 * q + 4 * k + 1) 0) (T.getD (64 * q + 4 * k + 2) 0) (T.getD (64 * q + 4 * k + 3) 0) := by
  unfold wordAt
  rw [blkL_at _ _ _ (by omega), blkL_at _ _ _ (by omega), blkL_at _ _ _ (by omega), blkL_at _ _ _ (by omega)]
  rfl
theorem word_eq (x0 x1 x2 x3 : UInt8) : bits .or .u32 (bits .or .u32 (bits .or .u32 ((x0.toNat : Int) % 4294967296 * 16777216 % 4294967296) ((x1.toNat : Int) % 4294967296 * 65536 % 4294967296)) ((x2.toNat : Int) % 4294967296 * 256 % 4294967296)) ((x3.toNat : Int) % 4294967296) = ((wordL x0 x1 x2 x3).toNat : Int) := by
  have e0 := q_byte x0 24 (by omega)
  have e1 := q_byte x1 16 (by omega)
  have e2 := q_byte x2 8 (by omega)
  have e3 : (x3.toNat : Int) % 4294967296 = (x3.toUInt32.toNat : Int) := by rw [UInt8.toNat_toUInt32]; have := x3.toNat_lt; omega
  rw [show (16777216 : Int) = 2 ^ 24 from rfl, show (65536 : Int) = 2 ^ 16 from rfl, show (256 : Int) = 2 ^ 8 from rfl, e0, e1, e2, e3, q_or, q_or, q_or]
  rfl
theorem zero_at (x : List UInt8) (k : Nat) (h : k < 64) : ((filled x k).map qv).toArray[k]? = some (.int .u32 0) := by
  simp only [filled, List.getElem?_toArray, List.map_append, List.getElem?_append]
  rw [if_neg (by rw [List.length_map, sched_length]; omega), List.length_map, sched_length, Nat.sub_self, show 64 - k = 63 - k + 1 by omega]
  rfl

theorem info_w8 : (Try.prog.info? 67).map (·.size) = some 8 := by kernel_rfl
theorem Grow.block {W w : World} {v : Value} {x : List UInt8} (h : Grow W w v x) (hx : 0 < x.length) : ∃ g c cur, v = .slice (some ⟨g, 0, none⟩) x.length c ∧ x.length ≤ c ∧ w.heap[g]? = some (.cells cur 5 (0, 0)) ∧ cur.toList.take x.length = x.map bv ∧ W.heap.size ≤ g := by
  rcases h.1.2 with ⟨rfl, h0⟩ | ⟨g, cap, cur, rfl, hb, hg, h1, h2, h3, h4⟩
  · omega
  · exact ⟨g, cap, cur, rfl, h1, hg, by rw [Nat.mul_one] at h4; exact h4, hb⟩

/-- All loops' bodies, as they stand. -/
def loopsIn : Code → List Code
  | .loop c => c :: loopsIn c
  | .seq a b => loopsIn a ++ loopsIn b
  | .block _ c => loopsIn c
  | .scope c => loopsIn c
  | .cond _ a b => loopsIn a ++ loopsIn b
  | _ => []
noncomputable def loopAt (n : Nat) : Code := (((Try.f41).body.map loopsIn).getD []).getD n .skip
end

section
open Go.RowKit
set_option linter.unusedVariables false
set_option linter.unusedSimpArgs false

set_option maxHeartbeats 8000000 in
set_option maxRecDepth 1000000 in
theorem l4_loop (Q0 : Exit → Act → World → Prop) (W : World) (gm g3 g4 G : Nat) (cur : Array Value) (T : List UInt8) (q : Nat) (s : St) (cc : Nat) (c0 c1 c2 c3 c4 c6 c7 c11 c12 c13 c14 c15 c16 c17 c18 c19 c20 c21 c22 c23 c24 c25 c26 c27 c28 c29 c30 c31 c32 c33 c34 c35 c36 c37 c38 c39 c40 c41 c42 c43 c44 c45 c46 c47 c48 c49 c50 c51 c52 c53 c54 c55 c56 c57 c58 c59 c60 c61 c62 c63 c64 c65 c66 c67 c68 c69 c70 c71 c72 c73 c74 c75 c76 c77 c78 c79 c80 c81 c82 c83 c84 c85 c86 c87 c88 c89 c90 c91 c92 c93 c94 c95 c96 c97 c98 c99 c100 c101 c102 c103 c104 c105 c106 c107 c108 c109 c110 c111 c112 c113 c114 c115 c116 c117 c118 c119 c120 c121 c122 c123 c124 c125 c126 c127 c128 c129 c130 c131 c132 c133 c134 c135 c136 c137 c138 c139 c140 c141 c142 c143 c144 c145 c146 c147 c148 c149 c150 c151 c152 c153 c154 c155 c156 c157 c158 c159 c160 c161 c162 c163 c164 c165 c166 c167 c168 c169 c170 c171 c172 c173 c174 c175 c176 c177 c178 c179 c180 c181 c182 c183 c184 c185 c186 c187 c188 c189 c190 c191 c192 c193 c194 c195 c196 c197 c198 c199 c200 c201 c202 c203 c204 c205 c206 c207 c208 c209 c210 c211 c212 c213 c214 c215 c216 c217 c218 c219 c220 c221 c222 c223 c224 c225 c226 c227 c228 c229 c230 c231 c232 c233 c234 c235 c236 c237 c238 c239 c240 c241 c242 c243 c244 c245 c246 c247 c248 c249 c250 c251 c252 c253 c254 c255 c256 c257 c258 c259 c260 c261 c262 c263 c264 c265 c266 c267 c268 c269 c270 c271 c272 c273 c274 c275 c276 c277 c278 c279 c280 c281 : Value) (w : World)
    (hcur : cur.toList.take T.length = T.map bv) (hd2 : 64 * q + 64 ≤ T.length) (hTl : T.length ≤ 2000000000000) (hne : gm ≠ G ∧ g3 ≠ G ∧ g4 ≠ G ∧ W.heap.size ≤ G)
    (hstart : w.heap[G]? = some (.cells ((filled (blkL T q) 0).map qv).toArray 73 (0, 0)) ∧ RE W gm cur g3 g4 s w)
    (hexit : ∀ (u59 u60 u61 u62 u63 u64 u65 u66 u67 u68 u69 u70 u71 u72 u73 u74 u75 u76 u77 u78 u79 u80 u81 u82 u83 u84 u85 u86 u87 u88 u89 u90 u91 u92 u93 u94 u95 u96 u97 u98 u99 u100 u101 u102 u103 u104 u105 : Value) (w' : World), w'.heap[G]? = some (.cells ((filled (blkL T q) 16).map qv).toArray 73 (0, 0)) ∧ RE W gm cur g3 g4 s w' → Q0 (.exit 6) ⟨#[c0, c1, c2, c3, c4, .slice (some ⟨gm, 0, none⟩) T.length cc, c6, c7, .int .i64 (64 * (q : Int)), .pointer (some ⟨G, 0, none⟩), .int .i64 16, c11, c12, c13, c14, c15, c16, c17, c18, c19, c20, c21, c22, c23, c24, c25, c26, c27, c28, c29, c30, c31, c32, c33, c34, c35, c36, c37, c38, c39, c40, c41, c42, c43, c44, c45, c46, c47, c48, c49, c50, c51, c52, c53, c54, c55, c56, c57, c58, u59, u60, u61, u62, u63, u64, u65, u66, u67, u68, u69, u70, u71, u72, u73, u74, u75, u76, u77, u78, u79, u80, u81, u82, u83, u84, u85, u86, u87, u88, u89, u90, u91, u92, u93, u94, u95, u96, u97, u98, u99, u100, u101, u102, u103, u104, u105, c106, c107, c108, c109, c110, c111, c112, c113, c114, c115, c116, c117, c118, c119, c120, c121, c122, c123, c124, c125, c126, c127, c128, c129, c130, c131, c132, c133, c134, c135, c136, c137, c138, c139, c140, c141, c142, c143, c144, c145, c146, c147, c148, c149, c150, c151, c152, c153, c154, c155, c156, c157, c158, c159, c160, c161, c162, c163, c164, c165, c166, c167, c168, c169, c170, c171, c172, c173, c174, c175, c176, c177, c178, c179, c180, c181, c182, c183, c184, c185, c186, c187, c188, c189, c190, c191, c192, c193, c194, c195, c196, c197, c198, c199, c200, c201, c202, c203, c204, c205, c206, c207, c208, c209, c210, c211, c212, c213, c214, c215, c216, c217, c218, c219, c220, c221, c222, c223, c224, c225, c226, c227, c228, c229, c230, c231, c232, c233, c234, c235, c236, c237, c238, c239, c240, c241, c242, c243, c244, c245, c246, c247, c248, c249, c250, c251, c252, c253, c254, c255, c256, c257, c258, c259, c260, c261, c262, c263, c264, c265, c266, c267, c268, c269, c270, c271, c272, c273, c274, c275, c276, c277, c278, c279, c280, c281], []⟩ w') :
    Code.wp Try.prog (Code.loop (loopAt 3)) Q0 ⟨#[c0, c1, c2, c3, c4, .slice (some ⟨gm, 0, none⟩) T.length cc, c6, c7, .int .i64 (64 * (q : Int)), .pointer (some ⟨G, 0, none⟩), .int .i64 0, c11, c12, c13, c14, c15, c16, c17, c18, c19, c20, c21, c22, c23, c24, c25, c26, c27, c28, c29, c30, c31, c32, c33, c34, c35, c36, c37, c38, c39, c40, c41, c42, c43, c44, c45, c46, c47, c48, c49, c50, c51, c52, c53, c54, c55, c56, c57, c58, c59, c60, c61, c62, c63, c64, c65, c66, c67, c68, c69, c70, c71, c72, c73, c74, c75, c76, c77, c78, c79, c80, c81, c82, c83, c84, c85, c86, c87, c88, c89, c90, c91, c92, c93, c94, c95, c96, c97, c98, c99, c100, c101, c102, c103, c104, c105, c106, c107, c108, c109, c110, c111, c112, c113, c114, c115, c116, c117, c118, c119, c120, c121, c122, c123, c124, c125, c126, c127, c128, c129, c130, c131, c132, c133, c134, c135, c136, c137, c138, c139, c140, c141, c142, c143, c144, c145, c146, c147, c148, c149, c150, c151, c152, c153, c154, c155, c156, c157, c158, c159, c160, c161, c162, c163, c164, c165, c166, c167, c168, c169, c170, c171, c172, c173, c174, c175, c176, c177, c178, c179, c180, c181, c182, c183, c184, c185, c186, c187, c188, c189, c190, c191, c192, c193, c194, c195, c196, c197, c198, c199, c200, c201, c202, c203, c204, c205, c206, c207, c208, c209, c210, c211, c212, c213, c214, c215, c216, c217, c218, c219, c220, c221, c222, c223, c224, c225, c226, c227, c228, c229, c230, c231, c232, c233, c234, c235, c236, c237, c238, c239, c240, c241, c242, c243, c244, c245, c246, c247, c248, c249, c250, c251, c252, c253, c254, c255, c256, c257, c258, c259, c260, c261, c262, c263, c264, c265, c266, c267, c268, c269, c270, c271, c272, c273, c274, c275, c276, c277, c278, c279, c280, c281], []⟩ w := by
  conv => arg 4; zeta
  conv => arg 2; arg 1; whnf
  have HS := Aside0.mk hstart
  have HX := Aside0.mk hexit
  clear hstart hexit
  have HGE := Aside0.mk hne
  have hd : (64 * (q : Int)) + 64 ≤ (T.length : Int) := by omega
  have hq1 : (q : Int) ≤ 1000000000000 := by omega
  have dB : decide (64 * (q : Int) < (T.length : Int)) = true := by simp; omega
  clear hne
  go_loopw [10] (fun i wr => ∃ k : Nat, k ≤ 16 ∧ i = .int .i64 (k : Int) ∧ Aside0 (wr.heap[G]? = some (.cells ((filled (blkL T q) k).map qv).toArray 73 (0, 0)) ∧ RE W gm cur g3 g4 s wr)) (fun i wr => 16 - (intOf i).toNat)
  case atStart => exact ⟨0, by omega, rfl, HS⟩
  case round =>
    obtain ⟨k, hk, rfl, hs⟩ := hrel
    clear HS
    by_cases hlt2 : k < 16
    · have hj0 : 64 * q + 4 * k + 3 < T.length := by omega
      have m0 := cur_at hs.out.2.1 hcur (64 * q + 4 * k) (by omega)
      have m1 := cur_at hs.out.2.1 hcur (64 * q + 4 * k + 1) (by omega)
      have m2 := cur_at hs.out.2.1 hcur (64 * q + 4 * k + 2) (by omega)
      have m3 := cur_at hs.out.2.1 hcur (64 * q + 4 * k + 3) (by omega)
      have hwd := wordAt_blk T q k hlt2
      generalize T.getD (64 * q + 4 * k) 0 = x0 at *
      generalize T.getD (64 * q + 4 * k + 1) 0 = x1 at *
      generalize T.getD (64 * q + 4 * k + 2) 0 = x2 at *
      generalize T.getD (64 * q + 4 * k + 3) 0 = x3 at *
      have HWD := Aside0.mk hwd
      have ck : wr.cell? ⟨G, k, none⟩ = some (.int .u32 0) := by rw [(blk hs.out.1).1 k]; exact zero_at _ k (by omega)
      have fk := (blk hs.out.1).2 k
      have a1 : IntKind.i64.wrap (4 * (k : Int)) = 4 * (k : Int) := IntWalk.i64_in _ (by omega)
      have a2 : IntKind.i64.wrap (64 * (q : Int) + 4 * (k : Int)) = 64 * (q : Int) + 4 * (k : Int) := IntWalk.i64_in _ (by omega)
      have a3 : IntKind.i64.wrap (64 * (q : Int) + 4 * (k : Int) + 1) = 64 * (q : Int) + 4 * (k : Int) + 1 := IntWalk.i64_in _ (by omega)
      have a4 : IntKind.i64.wrap (64 * (q : Int) + 4 * (k : Int) + 2) = 64 * (q : Int) + 4 * (k : Int) + 2 := IntWalk.i64_in _ (by omega)
      have a5 : IntKind.i64.wrap (64 * (q : Int) + 4 * (k : Int) + 3) = 64 * (q : Int) + 4 * (k : Int) + 3 := IntWalk.i64_in _ (by omega)
      have p0 : 0 ≤ 64 * (q : Int) + 4 * (k : Int) := by omega
      have p1 : 0 ≤ 64 * (q : Int) + 4 * (k : Int) + 1 := by omega
      have p2 : 0 ≤ 64 * (q : Int) + 4 * (k : Int) + 2 := by omega
      have p3 : 0 ≤ 64 * (q : Int) + 4 * (k : Int) + 3 := by omega
      have l0 : 64 * (q : Int) + 4 * (k : Int) < (T.length : Int) := by omega
      have l1 : 64 * (q : Int) + 4 * (k : Int) + 1 < (T.length : Int) := by omega
      have l2 : 64 * (q : Int) + 4 * (k : Int) + 2 < (T.length : Int) := by omega
      have l3 : 64 * (q : Int) + 4 * (k : Int) + 3 < (T.length : Int) := by omega
      have n0 : (64 * (q : Int) + 4 * (k : Int)).toNat = 64 * q + 4 * k := by omega
      have n1 : (64 * (q : Int) + 4 * (k : Int) + 1).toNat = 64 * q + 4 * k + 1 := by omega
      have n2 : (64 * (q : Int) + 4 * (k : Int) + 2).toNat = 64 * q + 4 * k + 2 := by omega
      have n3 : (64 * (q : Int) + 4 * (k : Int) + 3).toNat = 64 * q + 4 * k + 3 := by omega
      have k1 : (k : Int) < 64 := by omega
      clear hwd
      go_wp2_with fail
      refine wp_region_still_tail 43 (by kernel_rfl) (by kernel_rfl) ?_
      simp only [List.take_succ_cons, List.take_zero, List.drop_succ_cons, List.drop_zero]
      refine still_of_quiet _ _ ?_
      change wpQuiet _ _ (fun w' => w' = wr.drew) _ _ _
      repeat (quiet_step (fail))
      refine wpQuiet_nil ?_
      change wpList _ _ _ _ _ wr.drew
      clear m0 m1 m2 m3 a1 a2 a3 a4 a5 p0 p1 p2 p3 l0 l1 l2 l3 n0 n1 n2 n3
      go_wp2_with fail
      go_roundw
      case rel =>
        refine ⟨k + 1, by omega, by go_num, ⟨?_, ?_⟩⟩
        · rw [word_eq, ← HWD.out, ← filled_set (blkL T q) k (by omega) (wordAt (blkL T q) k) (by rw [if_pos hlt2])]
          exact arr_set (w := wr.drew) hs.out.1
        · exact (hs.out.2.below ((Below.refl _ _).drew)).other (grown_set _ _ _ _) HGE.out.1 HGE.out.2.1 HGE.out.2.2.1 HGE.out.2.2.2
      case measure => simp [intOf]; omega
    · obtain rfl : k = 16 := by omega
      have H5 := hs.out
      clear hs
      go_wp2_with fail
      exact HX.out _ _ _ _ _ _ _ _ _ _ _ _ _ _ _ _ _ _ _ _ _ _ _ _ _ _ _ _ _ _ _ _ _ _ _ _ _ _ _ _ _ _ _ _ _ _ _ _ H5
end

section
open Go.RowKit
set_option linter.unusedVariables false
set_option linter.unusedSimpArgs false

set_option maxHeartbeats 8000000 in
set_option maxRecDepth 1000000 in
theorem l5_loop (Q0 : Exit → Act → World → Prop) (W : World) (gm g3 g4 G : Nat) (cur : Array Value) (T : List UInt8) (q : Nat) (s : St) (c0 c1 c2 c3 c4 c5 c6 c7 c8 c10 c12 c13 c14 c15 c16 c17 c18 c19 c20 c21 c22 c23 c24 c25 c26 c27 c28 c29 c30 c31 c32 c33 c34 c35 c36 c37 c38 c39 c40 c41 c42 c43 c44 c45 c46 c47 c48 c49 c50 c51 c52 c53 c54 c55 c56 c57 c58 c59 c60 c61 c62 c63 c64 c65 c66 c67 c68 c69 c70 c71 c72 c73 c74 c75 c76 c77 c78 c79 c80 c81 c82 c83 c84 c85 c86 c87 c88 c89 c90 c91 c92 c93 c94 c95 c96 c97 c98 c99 c100 c101 c102 c103 c104 c105 c106 c107 c108 c109 c110 c111 c112 c113 c114 c115 c116 c117 c118 c119 c120 c121 c122 c123 c124 c125 c126 c127 c128 c129 c130 c131 c132 c133 c134 c135 c136 c137 c138 c139 c140 c141 c142 c143 c144 c145 c146 c147 c148 c149 c150 c151 c152 c153 c154 c155 c156 c157 c158 c159 c160 c161 c162 c163 c164 c165 c166 c167 c168 c169 c170 c171 c172 c173 c174 c175 c176 c177 c178 c179 c180 c181 c182 c183 c184 c185 c186 c187 c188 c189 c190 c191 c192 c193 c194 c195 c196 c197 c198 c199 c200 c201 c202 c203 c204 c205 c206 c207 c208 c209 c210 c211 c212 c213 c214 c215 c216 c217 c218 c219 c220 c221 c222 c223 c224 c225 c226 c227 c228 c229 c230 c231 c232 c233 c234 c235 c236 c237 c238 c239 c240 c241 c242 c243 c244 c245 c246 c247 c248 c249 c250 c251 c252 c253 c254 c255 c256 c257 c258 c259 c260 c261 c262 c263 c264 c265 c266 c267 c268 c269 c270 c271 c272 c273 c274 c275 c276 c277 c278 c279 c280 c281 : Value) (w : World)
    (hne : gm ≠ G ∧ g3 ≠ G ∧ g4 ≠ G ∧ W.heap.size ≤ G)
    (hstart : w.heap[G]? = some (.cells ((filled (blkL T q) 16).map qv).toArray 73 (0, 0)) ∧ RE W gm cur g3 g4 s w)
    (hexit : ∀ (u12 u13 u106 u107 u108 u109 u110 u111 u112 u113 u114 u115 u116 u117 u118 u119 u120 u121 u122 u123 u124 u125 u126 u127 u128 u129 u130 u131 u132 u133 u134 u135 u136 u137 u138 u139 u140 u141 u142 u143 u144 u145 u146 u147 u148 u149 u150 u151 u152 u153 u154 u155 u156 u157 u158 : Value) (w' : World), w'.heap[G]? = some (.cells ((filled (blkL T q) 64).map qv).toArray 73 (0, 0)) ∧ RE W gm cur g3 g4 s w' → Q0 (.exit 8) ⟨#[c0, c1, c2, c3, c4, c5, c6, c7, c8, .pointer (some ⟨G, 0, none⟩), c10, .int .i64 64, u12, u13, c14, c15, c16, c17, c18, c19, c20, c21, c22, c23, c24, c25, c26, c27, c28, c29, c30, c31, c32, c33, c34, c35, c36, c37, c38, c39, c40, c41, c42, c43, c44, c45, c46, c47, c48, c49, c50, c51, c52, c53, c54, c55, c56, c57, c58, c59, c60, c61, c62, c63, c64, c65, c66, c67, c68, c69, c70, c71, c72, c73, c74, c75, c76, c77, c78, c79, c80, c81, c82, c83, c84, c85, c86, c87, c88, c89, c90, c91, c92, c93, c94, c95, c96, c97, c98, c99, c100, c101, c102, c103, c104, c105, u106, u107, u108, u109, u110, u111, u112, u113, u114, u115, u116, u117, u118, u119, u120, u121, u122, u123, u124, u125, u126, u127, u128, u129, u130, u131, u132, u133, u134, u135, u136, u137, u138, u139, u140, u141, u142, u143, u144, u145, u146, u147, u148, u149, u150, u151, u152, u153, u154, u155, u156, u157, u158, c159, c160, c161, c162, c163, c164, c165, c166, c167, c168, c169, c170, c171, c172, c173, c174, c175, c176, c177, c178, c179, c180, c181, c182, c183, c184, c185, c186, c187, c188, c189, c190, c191, c192, c193, c194, c195, c196, c197, c198, c199, c200, c201, c202, c203, c204, c205, c206, c207, c208, c209, c210, c211, c212, c213, c214, c215, c216, c217, c218, c219, c220, c221, c222, c223, c224, c225, c226, c227, c228, c229, c230, c231, c232, c233, c234, c235, c236, c237, c238, c239, c240, c241, c242, c243, c244, c245, c246, c247, c248, c249, c250, c251, c252, c253, c254, c255, c256, c257, c258, c259, c260, c261, c262, c263, c264, c265, c266, c267, c268, c269, c270, c271, c272, c273, c274, c275, c276, c277, c278, c279, c280, c281], []⟩ w') :
    Code.wp Try.prog (Code.loop (loopAt 4)) Q0 ⟨#[c0, c1, c2, c3, c4, c5, c6, c7, c8, .pointer (some ⟨G, 0, none⟩), c10, .int .i64 16, c12, c13, c14, c15, c16, c17, c18, c19, c20, c21, c22, c23, c24, c25, c26, c27, c28, c29, c30, c31, c32, c33, c34, c35, c36, c37, c38, c39, c40, c41, c42, c43, c44, c45, c46, c47, c48, c49, c50, c51, c52, c53, c54, c55, c56, c57, c58, c59, c60, c61, c62, c63, c64, c65, c66, c67, c68, c69, c70, c71, c72, c73, c74, c75, c76, c77, c78, c79, c80, c81, c82, c83, c84, c85, c86, c87, c88, c89, c90, c91, c92, c93, c94, c95, c96, c97, c98, c99, c100, c101, c102, c103, c104, c105, c106, c107, c108, c109, c110, c111, c112, c113, c114, c115, c116, c117, c118, c119, c120, c121, c122, c123, c124, c125, c126, c127, c128, c129, c130, c131, c132, c133, c134, c135, c136, c137, c138, c139, c140, c141, c142, c143, c144, c145, c146, c147, c148, c149, c150, c151, c152, c153, c154, c155, c156, c157, c158, c159, c160, c161, c162, c163, c164, c165, c166, c167, c168, c169, c170, c171, c172, c173, c174, c175, c176, c177, c178, c179, c180, c181, c182, c183, c184, c185, c186, c187, c188, c189, c190, c191, c192, c193, c194, c195, c196, c197, c198, c199, c200, c201, c202, c203, c204, c205, c206, c207, c208, c209, c210, c211, c212, c213, c214, c215, c216, c217, c218, c219, c220, c221, c222, c223, c224, c225, c226, c227, c228, c229, c230, c231, c232, c233, c234, c235, c236, c237, c238, c239, c240, c241, c242, c243, c244, c245, c246, c247, c248, c249, c250, c251, c252, c253, c254, c255, c256, c257, c258, c259, c260, c261, c262, c263, c264, c265, c266, c267, c268, c269, c270, c271, c272, c273, c274, c275, c276, c277, c278, c279, c280, c281], []⟩ w := by
  conv => arg 4; zeta
  conv => arg 2; arg 1; whnf
  have HS := Aside0.mk hstart
  have HX := Aside0.mk hexit
  clear hstart hexit
  have HGE := Aside0.mk hne
  clear hne
  go_loopw [11] (fun i wr => ∃ k : Nat, 16 ≤ k ∧ k ≤ 64 ∧ i = .int .i64 (k : Int) ∧ Aside0 (wr.heap[G]? = some (.cells ((filled (blkL T q) k).map qv).toArray 73 (0, 0)) ∧ RE W gm cur g3 g4 s wr)) (fun i wr => 64 - (intOf i).toNat)
  case atStart => exact ⟨16, by omega, by omega, rfl, HS⟩
  case round =>
    obtain ⟨k, hk16, hk, rfl, hs⟩ := hrel
    clear HS
    by_cases hlt3 : k < 64
    · have c15 : wr.cell? ⟨G, k - 15, none⟩ = _ := ((blk hs.out.1).1 (k - 15)).trans (filled_at (blkL T q) k (k - 15) (by omega))
      have c16 : wr.cell? ⟨G, k - 16, none⟩ = _ := ((blk hs.out.1).1 (k - 16)).trans (filled_at (blkL T q) k (k - 16) (by omega))
      have c2 : wr.cell? ⟨G, k - 2, none⟩ = _ := ((blk hs.out.1).1 (k - 2)).trans (filled_at (blkL T q) k (k - 2) (by omega))
      have c7 : wr.cell? ⟨G, k - 7, none⟩ = _ := ((blk hs.out.1).1 (k - 7)).trans (filled_at (blkL T q) k (k - 7) (by omega))
      obtain ⟨Nx, hN⟩ : ∃ Nx, Nx = nextW (sched (blkL T q) k) k := ⟨_, rfl⟩
      have HN := Aside0.mk hN
      unfold nextW at hN
      generalize (sched (blkL T q) k).getD (k - 15) 0 = x15 at *
      generalize (sched (blkL T q) k).getD (k - 16) 0 = x16 at *
      generalize (sched (blkL T q) k).getD (k - 2) 0 = x2 at *
      generalize (sched (blkL T q) k).getD (k - 7) 0 = x7 at *
      have HNN := Aside0.mk hN
      have HCC := Aside0.mk (And.intro c15 (And.intro c16 (And.intro c2 c7)))
      have k1 : (k : Int) < 64 := by omega
      have k2 : 16 ≤ (k : Int) := by omega
      have z1 : IntKind.i64.wrap ((k : Int) - 16) = (k : Int) - 16 := IntWalk.i64_in _ (by omega)
      have z4 : ((k : Int) - 16).toNat = k - 16 := by omega
      have y1 : IntKind.i64.wrap ((k : Int) - 7) = (k : Int) - 7 := IntWalk.i64_in _ (by omega)
      have y4 : ((k : Int) - 7).toNat = k - 7 := by omega
      have y5 : 7 ≤ (k : Int) := by omega
      have y6 : 7 ≤ k := by omega
      have x1 : IntKind.i64.wrap ((k : Int) - 15) = (k : Int) - 15 := IntWalk.i64_in _ (by omega)
      have x4 : ((k : Int) - 15).toNat = k - 15 := by omega
      have x5 : 15 ≤ (k : Int) := by omega
      have x6 : 15 ≤ k := by omega
      have v1 : IntKind.i64.wrap ((k : Int) - 2) = (k : Int) - 2 := IntWalk.i64_in _ (by omega)
      have v4 : ((k : Int) - 2).toNat = k - 2 := by omega
      have v5 : 2 ≤ (k : Int) := by omega
      have v6 : 2 ≤ k := by omega
      have o1 : (k : Int) - 15 < 64 := by omega
      have o2 : (k : Int) - 2 < 64 := by omega
      have o3 : (k : Int) - 7 < 64 := by omega
      have o4 : (k : Int) - 16 < 64 := by omega
      clear hN
      go_wp2_with fail
      go_quiet (first | ((go_at_call_of 48 (Value.int IntKind.i64 7); exact Calls.quiet_of (rot_7 _ _))) | ((go_at_call_of 48 (Value.int IntKind.i64 18); exact Calls.quiet_of (rot_18 _ _))))
      obtain ⟨wq, hwq⟩ : ∃ wq, wq = wr.drewN nq := ⟨_, rfl⟩
      have HS3 := Aside0.mk (show wq.cell? ⟨G, k - 15, none⟩ = some (.int .u32 (x15.toNat : Int)) ∧ wq.cell? ⟨G, k - 16, none⟩ = some (.int .u32 (x16.toNat : Int)) ∧ wq.cell? ⟨G, k - 2, none⟩ = some (.int .u32 (x2.toNat : Int)) ∧ wq.cell? ⟨G, k - 7, none⟩ = some (.int .u32 (x7.toNat : Int)) by rw [hwq]; exact HCC.out)
      rw [← hwq]
      have HWQ := Aside0.mk hwq
      clear c15 c16 c2 c7 hwq
      obtain ⟨c15, c16, c2, c7⟩ := HS3.out
      go_wp2_with fail
      go_quiet (first | ((go_at_call_of 48 (Value.int IntKind.i64 17); exact Calls.quiet_of (rot_17 _ _))) | ((go_at_call_of 48 (Value.int IntKind.i64 19); exact Calls.quiet_of (rot_19 _ _))))
      obtain ⟨wq2, hwq2⟩ : ∃ wq2, wq2 = wq.drewN nq := ⟨_, rfl⟩
      have HS4 := Aside0.mk (show wq2.cell? ⟨G, k - 15, none⟩ = some (.int .u32 (x15.toNat : Int)) ∧ wq2.cell? ⟨G, k - 16, none⟩ = some (.int .u32 (x16.toNat : Int)) ∧ wq2.cell? ⟨G, k - 2, none⟩ = some (.int .u32 (x2.toNat : Int)) ∧ wq2.cell? ⟨G, k - 7, none⟩ = some (.int .u32 (x7.toNat : Int)) by rw [hwq2]; exact HS3.out)
      have HS5 := Aside0.mk (show wq2.heap[G]? = some (.cells ((filled (blkL T q) k).map qv).toArray 73 (0, 0)) ∧ RE W gm cur g3 g4 s wq2 by
        rw [hwq2, HWQ.out]; exact ⟨hs.out.1, hs.out.2.below (below_drewN (below_drewN (Below.refl _ _) _) _)⟩)
      rw [← hwq2]
      clear c15 c16 c2 c7 hwq2
      obtain ⟨c15, c16, c2, c7⟩ := HS4.out
      have ck : wq2.cell? ⟨G, k, none⟩ = some (.int .u32 0) := by rw [(blk HS5.out.1).1 k]; exact zero_at _ k hlt3
      have fk := (blk HS5.out.1).2 k
      go_wp2_with fail
      refine wp_region_still_tail 15 (by kernel_rfl) (by kernel_rfl) ?_
      simp only [List.take_succ_cons, List.take_zero, List.drop_succ_cons, List.drop_zero]
      refine still_of_quiet _ _ ?_
      change wpQuiet _ _ (fun w' => w' = wq2.drew) _ _ _
      repeat (quiet_step (fail))
      refine wpQuiet_nil ?_
      change wpList _ _ _ _ _ wq2.drew
      go_wp2_with fail
      go_roundw
      case rel =>
        refine ⟨k + 1, by omega, by omega, by go_num, ⟨?_, ?_⟩⟩
        · rw [next_eq, ← HNN.out, ← filled_set (blkL T q) k hlt3 Nx (by rw [if_neg (by omega)]; exact HN.out)]
          exact arr_set (w := wq2.drew) HS5.out.1
        · exact (HS5.out.2.below ((Below.refl _ _).drew)).other (grown_set _ _ _ _) HGE.out.1 HGE.out.2.1 HGE.out.2.2.1 HGE.out.2.2.2
      case measure => simp [intOf]; omega
    · obtain rfl : k = 64 := by omega
      have H5 := hs.out
      clear hs
      go_wp2_with fail
      exact HX.out _ _ _ _ _ _ _ _ _ _ _ _ _ _ _ _ _ _ _ _ _ _ _ _ _ _ _ _ _ _ _ _ _ _ _ _ _ _ _ _ _ _ _ _ _ _ _ _ _ _ _ _ _ _ _ _ H5
end

section
open Go.RowKit
set_option linter.unusedVariables false
set_option linter.unusedSimpArgs false

set_option maxHeartbeats 8000000 in
set_option maxRecDepth 1000000 in
theorem l6_loop (Q0 : Exit → Act → World → Prop) (W : World) (gm g3 g4 G Gv : Nat) (cur : Array Value) (T : List UInt8) (q : Nat) (s0 : St) (c0 c1 c2 c4 c5 c6 c7 c8 c10 c11 c12 c13 c16 c17 c18 c19 c20 c21 c22 c23 c24 c25 c26 c27 c28 c29 c30 c31 c32 c33 c34 c35 c36 c37 c38 c39 c40 c41 c42 c43 c44 c45 c46 c47 c48 c49 c50 c51 c52 c53 c54 c55 c56 c57 c58 c59 c60 c61 c62 c63 c64 c65 c66 c67 c68 c69 c70 c71 c72 c73 c74 c75 c76 c77 c78 c79 c80 c81 c82 c83 c84 c85 c86 c87 c88 c89 c90 c91 c92 c93 c94 c95 c96 c97 c98 c99 c100 c101 c102 c103 c104 c105 c106 c107 c108 c109 c110 c111 c112 c113 c114 c115 c116 c117 c118 c119 c120 c121 c122 c123 c124 c125 c126 c127 c128 c129 c130 c131 c132 c133 c134 c135 c136 c137 c138 c139 c140 c141 c142 c143 c144 c145 c146 c147 c148 c149 c150 c151 c152 c153 c154 c155 c156 c157 c158 c159 c160 c161 c162 c163 c164 c165 c166 c167 c168 c169 c170 c171 c172 c173 c174 c175 c176 c177 c178 c179 c180 c181 c182 c183 c184 c185 c186 c187 c188 c189 c190 c191 c192 c193 c194 c195 c196 c197 c198 c199 c200 c201 c202 c203 c204 c205 c206 c207 c208 c209 c210 c211 c212 c213 c214 c215 c216 c217 c218 c219 c220 c221 c222 c223 c224 c225 c226 c227 c228 c229 c230 c231 c232 c233 c234 c235 c236 c237 c238 c239 c240 c241 c242 c243 c244 c245 c246 c247 c248 c249 c250 c251 c252 c253 c254 c255 c256 c257 c258 c259 c260 c261 c262 c263 c264 c265 c266 c267 c268 c269 c270 c271 c272 c273 c274 c275 c276 c277 c278 c279 c280 c281 : Value) (w : World)
    (hne : gm ≠ Gv ∧ g3 ≠ Gv ∧ g4 ≠ Gv ∧ G ≠ Gv ∧ W.heap.size ≤ Gv)
    (hstart : w.heap[Gv]? = some (.cells (rnds (sched (blkL T q) 64) s0 0).vs 67 (0, 0)) ∧ w.heap[G]? = some (.cells ((sched (blkL T q) 64).map qv).toArray 73 (0, 0)) ∧ RE W gm cur g3 g4 s0 w)
    (hexit : ∀ (u16 u17 u18 u19 u160 u161 u162 u163 u164 u165 u166 u167 u168 u169 u170 u171 u172 u173 u174 u175 u176 u177 u178 u179 u180 u181 u182 u183 u184 u185 u186 u187 u188 u189 u190 u191 u192 u193 u194 u195 u196 u197 u198 u199 u200 u201 u202 u203 u204 u205 u206 u207 u208 u209 u210 u211 u212 u213 u214 u215 u216 u217 u218 u219 u220 u221 u222 u223 u224 u225 u226 u227 u228 u229 u230 u231 u232 u233 u234 u235 u236 u237 u238 u239 u240 u241 : Value) (w' : World), w'.heap[Gv]? = some (.cells (rnds (sched (blkL T q) 64) s0 64).vs 67 (0, 0)) ∧ w'.heap[G]? = some (.cells ((sched (blkL T q) 64).map qv).toArray 73 (0, 0)) ∧ RE W gm cur g3 g4 s0 w' → Q0 (.exit 10) ⟨#[c0, c1, c2, .pointer (some ⟨g3, 0, none⟩), c4, c5, c6, c7, c8, .pointer (some ⟨G, 0, none⟩), c10, c11, c12, c13, .pointer (some ⟨Gv, 0, none⟩), .int .i64 64, u16, u17, u18, u19, c20, c21, c22, c23, c24, c25, c26, c27, c28, c29, c30, c31, c32, c33, c34, c35, c36, c37, c38, c39, c40, c41, c42, c43, c44, c45, c46, c47, c48, c49, c50, c51, c52, c53, c54, c55, c56, c57, c58, c59, c60, c61, c62, c63, c64, c65, c66, c67, c68, c69, c70, c71, c72, c73, c74, c75, c76, c77, c78, c79, c80, c81, c82, c83, c84, c85, c86, c87, c88, c89, c90, c91, c92, c93, c94, c95, c96, c97, c98, c99, c100, c101, c102, c103, c104, c105, c106, c107, c108, c109, c110, c111, c112, c113, c114, c115, c116, c117, c118, c119, c120, c121, c122, c123, c124, c125, c126, c127, c128, c129, c130, c131, c132, c133, c134, c135, c136, c137, c138, c139, c140, c141, c142, c143, c144, c145, c146, c147, c148, c149, c150, c151, c152, c153, c154, c155, c156, c157, c158, c159, u160, u161, u162, u163, u164, u165, u166, u167, u168, u169, u170, u171, u172, u173, u174, u175, u176, u177, u178, u179, u180, u181, u182, u183, u184, u185, u186, u187, u188, u189, u190, u191, u192, u193, u194, u195, u196, u197, u198, u199, u200, u201, u202, u203, u204, u205, u206, u207, u208, u209, u210, u211, u212, u213, u214, u215, u216, u217, u218, u219, u220, u221, u222, u223, u224, u225, u226, u227, u228, u229, u230, u231, u232, u233, u234, u235, u236, u237, u238, u239, u240, u241, c242, c243, c244, c245, c246, c247, c248, c249, c250, c251, c252, c253, c254, c255, c256, c257, c258, c259, c260, c261, c262, c263, c264, c265, c266, c267, c268, c269, c270, c271, c272, c273, c274, c275, c276, c277, c278, c279, c280, c281], []⟩ w') :
    Code.wp Try.prog (Code.loop (loopAt 5)) Q0 ⟨#[c0, c1, c2, .pointer (some ⟨g3, 0, none⟩), c4, c5, c6, c7, c8, .pointer (some ⟨G, 0, none⟩), c10, c11, c12, c13, .pointer (some ⟨Gv, 0, none⟩), .int .i64 0, c16, c17, c18, c19, c20, c21, c22, c23, c24, c25, c26, c27, c28, c29, c30, c31, c32, c33, c34, c35, c36, c37, c38, c39, c40, c41, c42, c43, c44, c45, c46, c47, c48, c49, c50, c51, c52, c53, c54, c55, c56, c57, c58, c59, c60, c61, c62, c63, c64, c65, c66, c67, c68, c69, c70, c71, c72, c73, c74, c75, c76, c77, c78, c79, c80, c81, c82, c83, c84, c85, c86, c87, c88, c89, c90, c91, c92, c93, c94, c95, c96, c97, c98, c99, c100, c101, c102, c103, c104, c105, c106, c107, c108, c109, c110, c111, c112, c113, c114, c115, c116, c117, c118, c119, c120, c121, c122, c123, c124, c125, c126, c127, c128, c129, c130, c131, c132, c133, c134, c135, c136, c137, c138, c139, c140, c141, c142, c143, c144, c145, c146, c147, c148, c149, c150, c151, c152, c153, c154, c155, c156, c157, c158, c159, c160, c161, c162, c163, c164, c165, c166, c167, c168, c169, c170, c171, c172, c173, c174, c175, c176, c177, c178, c179, c180, c181, c182, c183, c184, c185, c186, c187, c188, c189, c190, c191, c192, c193, c194, c195, c196, c197, c198, c199, c200, c201, c202, c203, c204, c205, c206, c207, c208, c209, c210, c211, c212, c213, c214, c215, c216, c217, c218, c219, c220, c221, c222, c223, c224, c225, c226, c227, c228, c229, c230, c231, c232, c233, c234, c235, c236, c237, c238, c239, c240, c241, c242, c243, c244, c245, c246, c247, c248, c249, c250, c251, c252, c253, c254, c255, c256, c257, c258, c259, c260, c261, c262, c263, c264, c265, c266, c267, c268, c269, c270, c271, c272, c273, c274, c275, c276, c277, c278, c279, c280, c281], []⟩ w := by
  conv => arg 4; zeta
  conv => arg 2; arg 1; whnf
  have HS := Aside0.mk hstart
  have HX := Aside0.mk hexit
  clear hstart hexit
  have HGV := Aside0.mk hne
  clear hne
  go_loopw [15] (fun i wr => ∃ k : Nat, k ≤ 64 ∧ i = .int .i64 (k : Int) ∧ Aside0 (wr.heap[Gv]? = some (.cells (rnds (sched (blkL T q) 64) s0 k).vs 67 (0, 0)) ∧ wr.heap[G]? = some (.cells ((sched (blkL T q) 64).map qv).toArray 73 (0, 0)) ∧ RE W gm cur g3 g4 s0 wr)) (fun i wr => 64 - (intOf i).toNat)
  case atStart => exact ⟨0, by omega, rfl, HS⟩
  case round =>
    obtain ⟨k, hk, rfl, hs⟩ := hrel
    clear HS
    by_cases hlt4 : k < 64
    · have HR := Aside0.mk (RC_of hs.out.2.2.2.1 hs.out.2.1 hs.out.1 hlt4 (sched_length (blkL T q) 64))
      obtain ⟨t, ht⟩ : ∃ t, t = rnds (sched (blkL T q) 64) s0 k := ⟨_, rfl⟩
      obtain ⟨kk, hkk⟩ : ∃ t, t = Ks.getD k 0 := ⟨_, rfl⟩
      obtain ⟨ww, hww⟩ : ∃ t, t = (sched (blkL T q) 64).getD k 0 := ⟨_, rfl⟩
      rw [← ht, ← hkk, ← hww] at HR
      have HT6 := Aside0.mk (And.intro ht (And.intro hkk hww))
      have k1 : (k : Int) < 64 := by omega
      clear ht hkk hww
      obtain ⟨c0, c1, c2, c3, c4', c5', c6, c7, ck, cw⟩ := HR.out
      go_wp2_with fail
      go_quiet (fail)
      obtain ⟨wq, hwq⟩ : ∃ wq, wq = wr.drewN nq := ⟨_, rfl⟩
      have HS3 := Aside0.mk (show RC wq g3 G Gv k t kk ww by rw [hwq]; exact RC_drewN HR.out nq)
      rw [← hwq]
      have HWQ := Aside0.mk hwq
      clear c0 c1 c2 c3 c4' c5' c6 c7 ck cw hwq
      obtain ⟨c0, c1, c2, c3, c4', c5', c6, c7, ck, cw⟩ := HS3.out
      go_wp2_with fail
      go_quiet (first | ((go_at_call_of 48 (Value.int IntKind.i64 6); exact Calls.quiet_of (rot_6 _ _))) | ((go_at_call_of 48 (Value.int IntKind.i64 11); exact Calls.quiet_of (rot_11 _ _))) | ((go_at_call_of 48 (Value.int IntKind.i64 25); exact Calls.quiet_of (rot_25 _ _))))
      obtain ⟨wq2, hwq2⟩ : ∃ wq2, wq2 = wq.drewN nq := ⟨_, rfl⟩
      have HS4 := Aside0.mk (show RC wq2 g3 G Gv k t kk ww by rw [hwq2]; exact RC_drewN HS3.out nq)
      rw [← hwq2]
      have HWQ2 := Aside0.mk hwq2
      clear c0 c1 c2 c3 c4' c5' c6 c7 ck cw hwq2
      obtain ⟨c0, c1, c2, c3, c4', c5', c6, c7, ck, cw⟩ := HS4.out
      go_wp2_with fail
      rw [one_eq]
      obtain ⟨o1, ho1⟩ : ∃ o1, o1 = rOne t kk ww := ⟨_, rfl⟩
      rw [← ho1]
      have HO1 := Aside0.mk ho1
      clear ho1
      go_quiet (first | ((go_at_call_of 48 (Value.int IntKind.i64 2); exact Calls.quiet_of (rot_2 _ _))) | ((go_at_call_of 48 (Value.int IntKind.i64 13); exact Calls.quiet_of (rot_13 _ _))) | ((go_at_call_of 48 (Value.int IntKind.i64 22); exact Calls.quiet_of (rot_22 _ _))))
      obtain ⟨wq3, hwq3⟩ : ∃ wq3, wq3 = wq2.drewN nq := ⟨_, rfl⟩
      have HS5 := Aside0.mk (show RC wq3 g3 G Gv k t kk ww by rw [hwq3]; exact RC_drewN HS4.out nq)
      have HS6 := Aside0.mk (show wq3.heap = wr.heap ∧ RE W gm cur g3 g4 s0 wq3 by
        rw [hwq3, HWQ2.out, HWQ.out]
        exact ⟨rfl, hs.out.2.2.below (below_drewN (below_drewN (below_drewN (Below.refl _ _) _) _) _)⟩)
      rw [← hwq3]
      clear c0 c1 c2 c3 c4' c5' c6 c7 ck cw hwq3
      obtain ⟨c0, c1, c2, c3, c4', c5', c6, c7, ck, cw⟩ := HS5.out
      have HG7 := Aside0.mk (show wq3.heap[Gv]? = some (.cells t.vs 67 (0, 0)) by rw [HS6.out.1, HT6.out.1]; exact hs.out.1)
      go_wp2_with (refine wpList_store_arr rfl 67 (.tmp 14) (.tmp 241) rfl Gv _ _ 67 rfl rfl HG7.out (by rfl) info_w8 (by simp [Value.oneCell']) ?_; intro w7 hh5 hgr5)
      rw [two_eq', q_sum2] at hh5
      have hh6 : w7.heap[Gv]? = some (.cells (rnds (sched (blkL T q) 64) s0 (k + 1)).vs 67 (0, 0)) := by
        rw [hh5, rnds, ← HT6.out.1, ← HT6.out.2.1, ← HT6.out.2.2, HO1.out]; rfl
      have hh7 : w7.heap[G]? = some (.cells ((sched (blkL T q) 64).map qv).toArray 73 (0, 0)) := by
        have h' : wq3.heap[G]? = some (.cells ((sched (blkL T q) 64).map qv).toArray 73 (0, 0)) := by rw [HS6.out.1]; exact hs.out.2.1
        exact (hgr5.block _ (blk_lt h') (fun e => HGV.out.2.2.2.1 (Option.some.inj e))).trans h'
      have HH8 := Aside0.mk (And.intro hh6 (And.intro hh7 (HS6.out.2.other hgr5 HGV.out.1 HGV.out.2.1 HGV.out.2.2.1 HGV.out.2.2.2.2)))
      clear hh5 hh6 hh7 hgr5 c0 c1 c2 c3 c4' c5' c6 c7 ck cw
      go_roundw
      case rel => exact ⟨k + 1, by omega, by go_num, HH8⟩
      case measure => simp [intOf]; omega
    · obtain rfl : k = 64 := by omega
      have H5 := hs.out
      clear hs
      go_wp2_with fail
      exact HX.out _ _ _ _ _ _ _ _ _ _ _ _ _ _ _ _ _ _ _ _ _ _ _ _ _ _ _ _ _ _ _ _ _ _ _ _ _ _ _ _ _ _ _ _ _ _ _ _ _ _ _ _ _ _ _ _ _ _ _ _ _ _ _ _ _ _ _ _ _ _ _ _ _ _ _ _ _ _ _ _ _ _ _ _ _ _ _ H5
end

section
open Go.RowKit
set_option linter.unusedVariables false
set_option linter.unusedSimpArgs false

set_option maxHeartbeats 8000000 in
set_option maxRecDepth 1000000 in
theorem l7_loop (Q0 : Exit → Act → World → Prop) (W : World) (gm g3 g4 Gv : Nat) (cur : Array Value) (s0 t : St) (c0 c1 c2 c3 c5 c6 c7 c8 c9 c10 c11 c12 c13 c15 c16 c17 c18 c19 c21 c22 c23 c24 c25 c26 c27 c28 c29 c30 c31 c32 c33 c34 c35 c36 c37 c38 c39 c40 c41 c42 c43 c44 c45 c46 c47 c48 c49 c50 c51 c52 c53 c54 c55 c56 c57 c58 c59 c60 c61 c62 c63 c64 c65 c66 c67 c68 c69 c70 c71 c72 c73 c74 c75 c76 c77 c78 c79 c80 c81 c82 c83 c84 c85 c86 c87 c88 c89 c90 c91 c92 c93 c94 c95 c96 c97 c98 c99 c100 c101 c102 c103 c104 c105 c106 c107 c108 c109 c110 c111 c112 c113 c114 c115 c116 c117 c118 c119 c120 c121 c122 c123 c124 c125 c126 c127 c128 c129 c130 c131 c132 c133 c134 c135 c136 c137 c138 c139 c140 c141 c142 c143 c144 c145 c146 c147 c148 c149 c150 c151 c152 c153 c154 c155 c156 c157 c158 c159 c160 c161 c162 c163 c164 c165 c166 c167 c168 c169 c170 c171 c172 c173 c174 c175 c176 c177 c178 c179 c180 c181 c182 c183 c184 c185 c186 c187 c188 c189 c190 c191 c192 c193 c194 c195 c196 c197 c198 c199 c200 c201 c202 c203 c204 c205 c206 c207 c208 c209 c210 c211 c212 c213 c214 c215 c216 c217 c218 c219 c220 c221 c222 c223 c224 c225 c226 c227 c228 c229 c230 c231 c232 c233 c234 c235 c236 c237 c238 c239 c240 c241 c242 c243 c244 c245 c246 c247 c248 c249 c250 c251 c252 c253 c254 c255 c256 c257 c258 c259 c260 c261 c262 c263 c264 c265 c266 c267 c268 c269 c270 c271 c272 c273 c274 c275 c276 c277 c278 c279 c280 c281 : Value) (w : World)
    (hne : gm ≠ g4 ∧ g3 ≠ g4 ∧ g4 ≠ Gv ∧ W.heap.size ≤ g4)
    (hstart : w.heap[g4]? = some (.cells ((part s0 t 0).map qv).toArray 67 (0, 0)) ∧ w.heap[Gv]? = some (.cells (t.l.map qv).toArray 67 (0, 0)) ∧ w.heap[gm]? = some (.cells cur 5 (0, 0)) ∧ w.heap[g3]? = some (.cells (Ks.map qv).toArray 73 (0, 0)) ∧ Below W.heap.size W w)
    (hexit : ∀ (u242 u243 u244 u245 u246 u247 u248 u249 u250 u251 u252 u253 u254 : Value) (w' : World), w'.heap[g4]? = some (.cells ((part s0 t 8).map qv).toArray 67 (0, 0)) ∧ w'.heap[Gv]? = some (.cells (t.l.map qv).toArray 67 (0, 0)) ∧ w'.heap[gm]? = some (.cells cur 5 (0, 0)) ∧ w'.heap[g3]? = some (.cells (Ks.map qv).toArray 73 (0, 0)) ∧ Below W.heap.size W w' → Q0 (.exit 12) ⟨#[c0, c1, c2, c3, .pointer (some ⟨g4, 0, none⟩), c5, c6, c7, c8, c9, c10, c11, c12, c13, .pointer (some ⟨Gv, 0, none⟩), c15, c16, c17, c18, c19, .int .i64 8, c21, c22, c23, c24, c25, c26, c27, c28, c29, c30, c31, c32, c33, c34, c35, c36, c37, c38, c39, c40, c41, c42, c43, c44, c45, c46, c47, c48, c49, c50, c51, c52, c53, c54, c55, c56, c57, c58, c59, c60, c61, c62, c63, c64, c65, c66, c67, c68, c69, c70, c71, c72, c73, c74, c75, c76, c77, c78, c79, c80, c81, c82, c83, c84, c85, c86, c87, c88, c89, c90, c91, c92, c93, c94, c95, c96, c97, c98, c99, c100, c101, c102, c103, c104, c105, c106, c107, c108, c109, c110, c111, c112, c113, c114, c115, c116, c117, c118, c119, c120, c121, c122, c123, c124, c125, c126, c127, c128, c129, c130, c131, c132, c133, c134, c135, c136, c137, c138, c139, c140, c141, c142, c143, c144, c145, c146, c147, c148, c149, c150, c151, c152, c153, c154, c155, c156, c157, c158, c159, c160, c161, c162, c163, c164, c165, c166, c167, c168, c169, c170, c171, c172, c173, c174, c175, c176, c177, c178, c179, c180, c181, c182, c183, c184, c185, c186, c187, c188, c189, c190, c191, c192, c193, c194, c195, c196, c197, c198, c199, c200, c201, c202, c203, c204, c205, c206, c207, c208, c209, c210, c211, c212, c213, c214, c215, c216, c217, c218, c219, c220, c221, c222, c223, c224, c225, c226, c227, c228, c229, c230, c231, c232, c233, c234, c235, c236, c237, c238, c239, c240, c241, u242, u243, u244, u245, u246, u247, u248, u249, u250, u251, u252, u253, u254, c255, c256, c257, c258, c259, c260, c261, c262, c263, c264, c265, c266, c267, c268, c269, c270, c271, c272, c273, c274, c275, c276, c277, c278, c279, c280, c281], []⟩ w') :
    Code.wp Try.prog (Code.loop (loopAt 6)) Q0 ⟨#[c0, c1, c2, c3, .pointer (some ⟨g4, 0, none⟩), c5, c6, c7, c8, c9, c10, c11, c12, c13, .pointer (some ⟨Gv, 0, none⟩), c15, c16, c17, c18, c19, .int .i64 0, c21, c22, c23, c24, c25, c26, c27, c28, c29, c30, c31, c32, c33, c34, c35, c36, c37, c38, c39, c40, c41, c42, c43, c44, c45, c46, c47, c48, c49, c50, c51, c52, c53, c54, c55, c56, c57, c58, c59, c60, c61, c62, c63, c64, c65, c66, c67, c68, c69, c70, c71, c72, c73, c74, c75, c76, c77, c78, c79, c80, c81, c82, c83, c84, c85, c86, c87, c88, c89, c90, c91, c92, c93, c94, c95, c96, c97, c98, c99, c100, c101, c102, c103, c104, c105, c106, c107, c108, c109, c110, c111, c112, c113, c114, c115, c116, c117, c118, c119, c120, c121, c122, c123, c124, c125, c126, c127, c128, c129, c130, c131, c132, c133, c134, c135, c136, c137, c138, c139, c140, c141, c142, c143, c144, c145, c146, c147, c148, c149, c150, c151, c152, c153, c154, c155, c156, c157, c158, c159, c160, c161, c162, c163, c164, c165, c166, c167, c168, c169, c170, c171, c172, c173, c174, c175, c176, c177, c178, c179, c180, c181, c182, c183, c184, c185, c186, c187, c188, c189, c190, c191, c192, c193, c194, c195, c196, c197, c198, c199, c200, c201, c202, c203, c204, c205, c206, c207, c208, c209, c210, c211, c212, c213, c214, c215, c216, c217, c218, c219, c220, c221, c222, c223, c224, c225, c226, c227, c228, c229, c230, c231, c232, c233, c234, c235, c236, c237, c238, c239, c240, c241, c242, c243, c244, c245, c246, c247, c248, c249, c250, c251, c252, c253, c254, c255, c256, c257, c258, c259, c260, c261, c262, c263, c264, c265, c266, c267, c268, c269, c270, c271, c272, c273, c274, c275, c276, c277, c278, c279, c280, c281], []⟩ w := by
  conv => arg 4; zeta
  conv => arg 2; arg 1; whnf
  have HS := Aside0.mk hstart
  have HX := Aside0.mk hexit
  clear hstart hexit
  have hne' := Aside0.mk hne
  clear hne
  go_loopw [20] (fun i wr => ∃ k : Nat, k ≤ 8 ∧ i = .int .i64 (k : Int) ∧ Aside0 (wr.heap[g4]? = some (.cells ((part s0 t k).map qv).toArray 67 (0, 0)) ∧ wr.heap[Gv]? = some (.cells (t.l.map qv).toArray 67 (0, 0)) ∧ wr.heap[gm]? = some (.cells cur 5 (0, 0)) ∧ wr.heap[g3]? = some (.cells (Ks.map qv).toArray 73 (0, 0)) ∧ Below W.heap.size W wr)) (fun i wr => 8 - (intOf i).toNat)
  case atStart => exact ⟨0, by omega, rfl, HS⟩
  case round =>
    obtain ⟨k, hk, rfl, hs⟩ := hrel
    clear HS
    by_cases hlt5 : k < 8
    · have c1 := arr_cell hs.out.1 (by rw [part_length s0 t k hk]; exact hlt5)
      rw [part_at s0 t k hlt5] at c1
      have c2 := arr_cell hs.out.2.1 (show k < t.l.length by exact hlt5)
      have f1 := (blk hs.out.1).2 k
      obtain ⟨tk, htk⟩ : ∃ z, z = t.l.getD k 0 := ⟨_, rfl⟩
      obtain ⟨sk, hsk⟩ : ∃ z, z = s0.l.getD k 0 := ⟨_, rfl⟩
      rw [← hsk] at c1
      rw [← htk] at c2
      have HK := Aside0.mk (And.intro htk hsk)
      have hb1' : (k : Int) < 8 := by omega
      have hb0' : (0 : Int) ≤ (k : Int) := by omega
      clear htk hsk
      go_wp2_with fail
      go_region
      go_wp2_with fail
      have e1 : ((part s0 t k).map qv).toArray.setIfInBounds k (.int .u32 (((sk + tk : UInt32).toNat : Nat) : Int)) = ((part s0 t (k + 1)).map qv).toArray := by rw [HK.out.1, HK.out.2]; exact part_set s0 t k hlt5
      rw [q_sum2]
      skip
      go_roundw
      case rel =>
        refine ⟨k + 1, by omega, by go_num, ⟨?_, ?_, ?_, ?_, ?_⟩⟩
        · rw [← e1]; exact arr_set hs.out.1
        · exact heap_set (Ne.symm hne'.out.2.2.1) hs.out.2.1
        · exact heap_set hne'.out.1 hs.out.2.2.1
        · exact heap_set (hne'.out.2.1) hs.out.2.2.2.1
        · exact (hs.out.2.2.2.2.setCell (hne'.out.2.2.2) _).drew
      case measure => simp [intOf]; omega
    · obtain rfl : k = 8 := by omega
      have H5 := hs.out
      clear hs
      go_wp2_with fail
      exact HX.out _ _ _ _ _ _ _ _ _ _ _ _ _ _ H5
end

section
open Go.RowKit
set_option linter.unusedVariables false
set_option linter.unusedSimpArgs false

set_option maxHeartbeats 8000000 in
set_option maxRecDepth 1000000 in
theorem l8_loop (Q0 : Exit → Act → World → Prop) (g4 : Nat) (S : St) (c0 c1 c2 c3 c5 c6 c7 c8 c9 c10 c11 c12 c13 c14 c15 c16 c17 c18 c19 c20 c23 c24 c25 c26 c27 c28 c29 c30 c31 c32 c33 c34 c35 c36 c37 c38 c39 c40 c41 c42 c43 c44 c45 c46 c47 c48 c49 c50 c51 c52 c53 c54 c55 c56 c57 c58 c59 c60 c61 c62 c63 c64 c65 c66 c67 c68 c69 c70 c71 c72 c73 c74 c75 c76 c77 c78 c79 c80 c81 c82 c83 c84 c85 c86 c87 c88 c89 c90 c91 c92 c93 c94 c95 c96 c97 c98 c99 c100 c101 c102 c103 c104 c105 c106 c107 c108 c109 c110 c111 c112 c113 c114 c115 c116 c117 c118 c119 c120 c121 c122 c123 c124 c125 c126 c127 c128 c129 c130 c131 c132 c133 c134 c135 c136 c137 c138 c139 c140 c141 c142 c143 c144 c145 c146 c147 c148 c149 c150 c151 c152 c153 c154 c155 c156 c157 c158 c159 c160 c161 c162 c163 c164 c165 c166 c167 c168 c169 c170 c171 c172 c173 c174 c175 c176 c177 c178 c179 c180 c181 c182 c183 c184 c185 c186 c187 c188 c189 c190 c191 c192 c193 c194 c195 c196 c197 c198 c199 c200 c201 c202 c203 c204 c205 c206 c207 c208 c209 c210 c211 c212 c213 c214 c215 c216 c217 c218 c219 c220 c221 c222 c223 c224 c225 c226 c227 c228 c229 c230 c231 c232 c233 c234 c235 c236 c237 c238 c239 c240 c241 c242 c243 c244 c245 c246 c247 c248 c249 c250 c251 c252 c253 c254 c255 c256 c257 c258 c259 c260 c261 c262 c263 c264 c265 c266 c267 c268 c269 c270 c271 c272 c273 c274 c275 c276 c277 c278 c279 c280 c281 : Value) (w : World)
    
    (hstart : w.heap[g4]? = some (.cells S.vs 67 (0, 0)))
    (hexit : ∀ (u21 u255 u256 u257 u258 u259 u260 u261 u262 u263 u264 u265 u266 u267 u268 u269 u270 u271 u272 u273 u274 u275 u276 u277 u278 u279 u280 : Value) (w' : World), Grow w w' u21 (outL S 8) → Q0 (.exit 14) ⟨#[c0, c1, c2, c3, .pointer (some ⟨g4, 0, none⟩), c5, c6, c7, c8, c9, c10, c11, c12, c13, c14, c15, c16, c17, c18, c19, c20, u21, .int .i64 8, c23, c24, c25, c26, c27, c28, c29, c30, c31, c32, c33, c34, c35, c36, c37, c38, c39, c40, c41, c42, c43, c44, c45, c46, c47, c48, c49, c50, c51, c52, c53, c54, c55, c56, c57, c58, c59, c60, c61, c62, c63, c64, c65, c66, c67, c68, c69, c70, c71, c72, c73, c74, c75, c76, c77, c78, c79, c80, c81, c82, c83, c84, c85, c86, c87, c88, c89, c90, c91, c92, c93, c94, c95, c96, c97, c98, c99, c100, c101, c102, c103, c104, c105, c106, c107, c108, c109, c110, c111, c112, c113, c114, c115, c116, c117, c118, c119, c120, c121, c122, c123, c124, c125, c126, c127, c128, c129, c130, c131, c132, c133, c134, c135, c136, c137, c138, c139, c140, c141, c142, c143, c144, c145, c146, c147, c148, c149, c150, c151, c152, c153, c154, c155, c156, c157, c158, c159, c160, c161, c162, c163, c164, c165, c166, c167, c168, c169, c170, c171, c172, c173, c174, c175, c176, c177, c178, c179, c180, c181, c182, c183, c184, c185, c186, c187, c188, c189, c190, c191, c192, c193, c194, c195, c196, c197, c198, c199, c200, c201, c202, c203, c204, c205, c206, c207, c208, c209, c210, c211, c212, c213, c214, c215, c216, c217, c218, c219, c220, c221, c222, c223, c224, c225, c226, c227, c228, c229, c230, c231, c232, c233, c234, c235, c236, c237, c238, c239, c240, c241, c242, c243, c244, c245, c246, c247, c248, c249, c250, c251, c252, c253, c254, u255, u256, u257, u258, u259, u260, u261, u262, u263, u264, u265, u266, u267, u268, u269, u270, u271, u272, u273, u274, u275, u276, u277, u278, u279, u280, c281], []⟩ w') :
    Code.wp Try.prog (Code.loop (loopAt 7)) Q0 ⟨#[c0, c1, c2, c3, .pointer (some ⟨g4, 0, none⟩), c5, c6, c7, c8, c9, c10, c11, c12, c13, c14, c15, c16, c17, c18, c19, c20, .slice none 0 0, .int .i64 0, c23, c24, c25, c26, c27, c28, c29, c30, c31, c32, c33, c34, c35, c36, c37, c38, c39, c40, c41, c42, c43, c44, c45, c46, c47, c48, c49, c50, c51, c52, c53, c54, c55, c56, c57, c58, c59, c60, c61, c62, c63, c64, c65, c66, c67, c68, c69, c70, c71, c72, c73, c74, c75, c76, c77, c78, c79, c80, c81, c82, c83, c84, c85, c86, c87, c88, c89, c90, c91, c92, c93, c94, c95, c96, c97, c98, c99, c100, c101, c102, c103, c104, c105, c106, c107, c108, c109, c110, c111, c112, c113, c114, c115, c116, c117, c118, c119, c120, c121, c122, c123, c124, c125, c126, c127, c128, c129, c130, c131, c132, c133, c134, c135, c136, c137, c138, c139, c140, c141, c142, c143, c144, c145, c146, c147, c148, c149, c150, c151, c152, c153, c154, c155, c156, c157, c158, c159, c160, c161, c162, c163, c164, c165, c166, c167, c168, c169, c170, c171, c172, c173, c174, c175, c176, c177, c178, c179, c180, c181, c182, c183, c184, c185, c186, c187, c188, c189, c190, c191, c192, c193, c194, c195, c196, c197, c198, c199, c200, c201, c202, c203, c204, c205, c206, c207, c208, c209, c210, c211, c212, c213, c214, c215, c216, c217, c218, c219, c220, c221, c222, c223, c224, c225, c226, c227, c228, c229, c230, c231, c232, c233, c234, c235, c236, c237, c238, c239, c240, c241, c242, c243, c244, c245, c246, c247, c248, c249, c250, c251, c252, c253, c254, c255, c256, c257, c258, c259, c260, c261, c262, c263, c264, c265, c266, c267, c268, c269, c270, c271, c272, c273, c274, c275, c276, c277, c278, c279, c280, c281], []⟩ w := by
  conv => arg 4; zeta
  conv => arg 2; arg 1; whnf
  have HS := Aside0.mk hstart
  have HX := Aside0.mk hexit
  clear hstart hexit
  obtain ⟨wf, rfl⟩ : ∃ wf, wf = w := ⟨_, rfl⟩
  have H80 := Aside0.mk (show Grow wf wf (.slice none 0 0) (outL S 0) from Grow.refl0 _)
  go_loopw [21, 22] (fun a i wr => ∃ k : Nat, k ≤ 8 ∧ i = .int .i64 (k : Int) ∧ Aside0 (Grow wf wr a (outL S k))) (fun a i wr => 8 - (intOf i).toNat)
  case atStart => exact ⟨0, by omega, rfl, H80⟩
  case round =>
    obtain ⟨k, hk, rfl, hs2⟩ := hrel
    clear H80
    by_cases hlt2 : k < 8
    · have c1 := arr_cell (l := S.l) (below_heap hs2.out.2 HS.out) (show k < S.l.length by exact hlt2)
      obtain ⟨xk, hxk⟩ : ∃ xk, xk = S.l.getD k 0 := ⟨_, rfl⟩
      rw [← hxk] at c1
      have HXK := Aside0.mk hxk
      have hb1' : (k : Int) < 8 := by omega
      have hb0' : (0 : Int) ≤ (k : Int) := by omega
      clear hxk
      go_wp2_with fail
      have hgd : Grow wf wr.drew u21 (outL S k) := ⟨own_below hs2.out.1 (Below.refl _ _).drew, hs2.out.2.drew⟩
      have HGD := Aside0.mk hgd
      clear hgd
      go_region_held3 (fun w' => w'.cell? ⟨g4, k, none⟩ = some (.int .u32 (xk.toNat : Int))) (first | exact c1 | exact cell_keep (((Below.refl _ _).drew).alloc (Nat.le_refl _) _) c1)
        ((refine step_append_grow rfl (by rfl) (.tmp 259) (.tmp 279) (by rfl) _ (outL S k) (bytesW xk) 4 rfl _ (bytes4 xk) (by rfl) (by rfl) HGD.out (by rw [outL_length]; simp [bytesW]; omega) ?_; intro v' w' hG; have HG := Aside0.mk hG; have c1 : w'.cell? ⟨g4, k, none⟩ = some (.int .u32 (xk.toNat : Int)) := (by have := arr_cell (l := S.l) (below_heap hG.2 HS.out) (show k < S.l.length by exact hlt2); rw [← HXK.out] at this; exact this); clear hG))
      all_goals
        have HG' := Aside0.mk (show Grow wf w' v' (outL S (k + 1)) by rw [outL]; have := HG.out; rw [HXK.out] at this; exact this)
        clear HG
        go_wp2_with fail
        go_roundw
        case rel => first | exact ⟨k + 1, by omega, by go_num, HG'⟩ | ((repeat apply Exists.intro); exact ⟨⟨k + 1, by omega, by go_num, HG'⟩, rfl⟩)
        case measure => simp [intOf]; omega
    · obtain rfl : k = 8 := by omega
      have H5 := hs2.out
      clear hs2
      go_wp2_with fail
      exact HX.out _ _ _ _ _ _ _ _ _ _ _ _ _ _ _ _ _ _ _ _ _ _ _ _ _ _ _ _ H5
end

section
open Go.RowKit
set_option linter.unusedVariables false
set_option linter.unusedSimpArgs false

set_option maxHeartbeats 8000000 in
set_option maxRecDepth 100000 in
theorem rsum_calls {b0 : Nat} {v : Value} {b : List UInt8} (w : World) (hv : Sl bv 5 w b0 v b) (hl : b.length ≤ 1000000000000) :
    Calls Try.prog 41 #[v] w fun e w' => ∃ v', e = .returned v' ∧ w'.ownsRow w.heap.size 5 1 v' (shaL b).length ((shaL b).map bv) ∧ Below w.heap.size w w' := by
  have HV := Aside0.mk hv
  have HL := Aside0.mk hl
  obtain ⟨A, c, rfl, hc, hm, _⟩ := hv
  go_enter Try.func41, Try.ntmps41
  go_wp2_with fail
  refine (rounds_calls w).mono ?_
  rintro e w1 ⟨rfl, hb1⟩
  have HB1 := Aside0.mk hb1
  clear hb1
  go_upto_region 3 with (first
    | (refine wpList_store_arr rfl 73 (.tmp 3) (.tmp 23) rfl w1.heap.size (Ks.map qv).toArray _ 73 rfl rfl (heap_new rfl) (by kernel_rfl) info_u32x64 (one_qv _) ?_
       intro w2 hg2 hgr2
       have hb2 : Below w1.heap.size w1 w2 := ((Below.refl w1.heap.size w1).alloc (Nat.le_refl _) _).grown hgr2 (by simp) (fun k hk => by cases hk; exact Nat.le_refl _)
       have hl2 := blk_lt hg2
       have H2 := Aside0.mk (And.intro hg2 (And.intro (below_step HB1.out hb2) hl2))
       clear hg2 hgr2 hb2 hl2)
    | (refine wpList_store_arr rfl 67 (.tmp 4) (.tmp 24) rfl w2.heap.size St0.vs _ 67 rfl (by kernel_rfl) (heap_new rfl) (by kernel_rfl) info_w8 (one_vs _) ?_
       intro w3 hg3 hgr3
       have hb3 : Below w2.heap.size w2 w3 := ((Below.refl w2.heap.size w2).alloc (Nat.le_refl _) _).grown hgr3 (by simp) (fun k hk => by cases hk; exact Nat.le_refl _)
       have H3 := Aside0.mk (And.intro hg3 (And.intro (below_heap hb3 H2.out.1) (And.intro (below_step H2.out.2.1 hb3) H2.out.2.2)))
       clear hg3 hgr3 hb3))
  have HBW : Aside0 (Below w.heap.size w w3) := ⟨H3.out.2.2.1⟩
  go_wp2_with (first
    | (at_builtin; refine append_row bv (fun _ => rfl) rfl (.tmp 25) (.tmp 26) 22 rfl w3.heap.size 5 _ _ _ _ Try.underlying22 info_u8 rfl (by decide) _ [] b _ (by rfl) (by rfl) (World.ownsRow_made w3 #[] 0 (Nat.le_refl _) (by decide) rfl) (HV.out.below (below_step HBW.out ((Below.refl _ _).alloc (Nat.le_refl _) _))) (by simp; have := HL.out; omega) (by simp) ?_; intro v4 w4 hown hgr _
       have hG4 : Grow w3 w4 v4 b := ⟨by simpa using hown, ((Below.refl w3.heap.size w3).alloc (Nat.le_refl _) _).grown hgr (by simp) (fun k hk => by cases hk; exact Nat.le_refl _)⟩
       obtain ⟨A4, c4, rfl⟩ := hG4.shape
       have HG4 := Aside0.mk hG4
       clear hown hgr hG4)
    | (at_builtin; refine append_grow rfl rfl (.tmp 27) (.tmp 28) rfl _ b [128] 1 rfl _ rfl (by rfl) (by rfl) HG4.out (by have := HL.out; simp; omega) ?_; intro v5 w5 hG
       have hG5 : Grow w3 w5 v5 (b ++ padZ 0) := hG
       obtain ⟨A5, c5, rfl⟩ : ∃ A c, v5 = .slice A (b.length + (0 + 1)) c := by have := hG5.shape; rwa [List.length_append, padZ_length] at this
       have HG5 := Aside0.mk hG5
       clear hG hG5))
  go_loopw [5] (fun a wr => ∃ j : Nat, j ≤ zerosN b.length ∧ (∃ A cc, a = .slice A (b.length + (j + 1)) cc) ∧ Aside0 (Grow w3 wr a (b ++ padZ j))) (fun a wr => zerosN b.length + b.length - (match a with | .slice _ n _ => n - 1 | _ => 0))
  case atStart => exact ⟨0, Nat.zero_le _, ⟨_, _, rfl⟩, HG5⟩
  case round =>
    obtain ⟨j, hj, ⟨A, cc, rfl⟩, hs⟩ := hrel
    have hb1 : (b.length : Int) ≤ 1000000000000 := by have := HL.out; omega
    by_cases hlt : j < zerosN b.length
    · have hz := zeros_go b.length j hlt
      have hj2 : (j : Int) ≤ 64 := by have := zerosN_lt b.length; omega
      have hz' : (((b.length : Int) + ((j : Int) + 1)) % 64 != 56) = true := by simp; omega
      go_wp2_with (at_builtin; refine append_grow rfl rfl (.tmp 34) (.tmp 35) rfl _ (b ++ padZ j) [0] 1 rfl _ rfl rfl rfl hs.out (by have := zerosN_lt b.length; have := HL.out; rw [List.length_append, padZ_length]; simp; omega) ?_; intro v' w' hG)
      have HG := Aside0.mk (show Grow w3 w' v' (b ++ padZ (j + 1)) by rw [← padZ_succ, ← List.append_assoc]; exact hG)
      have hsh := HG.out.shape
      rw [List.length_append, padZ_length] at hsh
      clear hG
      go_roundw
      case rel => exact ⟨j + 1, by omega, hsh, HG⟩
      case measure =>
        obtain ⟨A', c', rfl⟩ := hsh
        simp; omega
    · have hjz : j = zerosN b.length := by omega
      have hj2 : (j : Int) ≤ 64 := by have := zerosN_lt b.length; omega
      have hz := zeros_end b.length
      have hz' : (((b.length : Int) + ((j : Int) + 1)) % 64 != 56) = false := by simp; omega
      have HZ := Aside0.mk hjz
      clear hlt hj hz hjz
      go_wp2_with fail
      have H1 := Aside0.mk (show Grow w3 wr (.slice A (b.length + (j + 1)) cc) (b ++ padZ j ++ lenN b.length 0) by rw [show lenN b.length 0 = [] from rfl, List.append_nil]; exact hs.out)
      clear hs
      obtain ⟨wo, rfl⟩ : ∃ wo : World, wo = wr := ⟨_, rfl⟩
      go_loopw [5, 7] (fun a i wr => ∃ m : Nat, m ≤ 8 ∧ i = .int .i64 (7 - (m : Int)) ∧ (∃ A cc, a = .slice A (b.length + (j + 1) + m) cc) ∧ Aside0 (Grow w3 wr a (b ++ padZ j ++ lenN b.length m))) (fun a i wr => (intOf i + 1).toNat)
      case atStart => exact ⟨0, by omega, rfl, ⟨_, _, rfl⟩, H1⟩
      case round =>
        obtain ⟨m, hm, rfl, ⟨A, cc, rfl⟩, hs⟩ := hrel
        by_cases hlt : m < 8
        · have hi0 : (0 : Int) ≤ 7 - (m : Int) := by omega
          have hi1 : 7 - (m : Int) ≤ 7 := by omega
          go_wp2_with (at_builtin; refine append_grow rfl rfl (.tmp 45) (.tmp 51) rfl _ (b ++ padZ j ++ lenN b.length m) [lenAt b.length m] 1 rfl _ (by rw [lenAt_value]; rfl) rfl rfl hs.out (by have := HL.out; rw [List.length_append, List.length_append, padZ_length, lenN_length]; simp; omega) ?_; intro v' w' hG)
          have HG := Aside0.mk (show Grow w3 w' v' (b ++ padZ j ++ lenN b.length (m + 1)) by rw [lenN, ← List.append_assoc]; exact hG)
          have hsh := HG.out.shape
          rw [List.length_append, List.length_append, padZ_length, lenN_length] at hsh
          clear hG
          go_roundw
          case rel => exact ⟨m + 1, by omega, by go_num, hsh, HG⟩
          case measure => simp [intOf]; omega
        · have hm8 : m = 8 := by omega
          have hp : b ++ padZ j ++ lenN b.length m = b ++ padL b.length := by rw [hm8, HZ.out, padL_eq, List.append_assoc]
          have hi0 : ¬ (0 : Int) ≤ 7 - (m : Int) := by omega
          obtain ⟨T, hT⟩ : ∃ T, T = b ++ padL b.length := ⟨_, rfl⟩
          have hTl : T.length = b.length + (zerosN b.length + 9) := by rw [hT, List.length_append, padL_length]
          have hTn : b.length + (j + 1) + m = T.length := by rw [hTl, ← HZ.out]; omega
          have hG := hs.out
          rw [hp, ← hT, hTn] at hG
          obtain ⟨gm, c9, cur, he, hc9, hgm, hcur, hgm3⟩ := hG.block (by omega)
          cases he
          rw [hTn]
          have hT64 : ∃ N, T.length = 64 * N := ⟨T.length / 64, by rw [hTl]; unfold zerosN; omega⟩
          obtain ⟨N, hN⟩ := hT64
          have hN1 : (N : Int) ≤ 17000000000 := by have := HL.out; have := zerosN_lt b.length; omega
          have HT := Aside0.mk (And.intro hT hN)
          have HCUR := Aside0.mk hcur
          have HGM := Aside0.mk (And.intro hgm3 hc9)
          have hlow : Below w3.heap.size w3 wr := hG.2
          have H0 := Aside0.mk (show RE w gm cur w1.heap.size w2.heap.size (blocksL St0 0 T) wr from ⟨hgm, below_heap hlow H3.out.2.1, below_heap hlow H3.out.1, below_step HBW.out hlow⟩)
          have hg34 : w1.heap.size < w2.heap.size ∧ w2.heap.size < w3.heap.size ∧ w.heap.size ≤ w1.heap.size := ⟨blk_lt H2.out.1, blk_lt H3.out.1, HB1.out.size⟩
          have HG34 := Aside0.mk hg34
          have HTM := Aside0.mk (show (T.length : Int) = 64 * (N : Int) by omega)
          clear hg34 hs hp hm8 H1 hT hTl hG hc9 hgm hcur hgm3 hlow hN hm hlt hTn
          go_wp2_with fail
          obtain ⟨wp, rfl⟩ : ∃ wp : World, wp = wr := ⟨_, rfl⟩
          go_loopw [8] (fun i wr => ∃ q : Nat, q ≤ N ∧ i = .int .i64 (64 * (q : Int)) ∧ Aside0 (RE w gm cur w1.heap.size w2.heap.size (blocksL St0 q T) wr)) (fun i wr => (64 * (N : Int) - intOf i).toNat)
          case atStart => exact ⟨0, by omega, rfl, H0⟩
          case round =>
            obtain ⟨q, hq, rfl, hs⟩ := hrel
            clear H0
            by_cases hlt : q < N
            · have hd : (64 * (q : Int)) + 64 ≤ (T.length : Int) := by have := HTM.out; omega
              have hd2 : 64 * q + 64 ≤ T.length := by omega
              have dB : decide (64 * (q : Int) < (T.length : Int)) = true := by simp; omega
              have hq1 : (q : Int) ≤ 17000000000 := by omega
              have hG := hs.out.2.2.2.size
              obtain ⟨wb, hwb⟩ : ∃ wb : World, wb = wr := ⟨_, rfl⟩
              rw [← hwb] at hs hG ⊢
              have HF0 : ∀ w', w' = wb.alloc (.cells ((filled (blkL T q) 0).map qv).toArray 73) → Aside0 (w'.heap[wb.heap.size]? = some (.cells ((filled (blkL T q) 0).map qv).toArray 73 (0, 0)) ∧ RE w gm cur w1.heap.size w2.heap.size (blocksL St0 q T) w') := fun w' hw => by
                subst hw
                exact ⟨heap_new rfl, hs.out.below ((Below.refl _ _).alloc (Nat.le_refl _) _)⟩
              have HF0 := Aside0.mk HF0
              have HGE := Aside0.mk (show gm ≠ wb.heap.size ∧ w1.heap.size ≠ wb.heap.size ∧ w2.heap.size ≠ wb.heap.size ∧ w.heap.size ≤ wb.heap.size from ⟨Nat.ne_of_lt (blk_lt hs.out.1), Nat.ne_of_lt (blk_lt hs.out.2.1), Nat.ne_of_lt (blk_lt hs.out.2.2.1), hG⟩)
              clear hwb hs hG
              go_wp2_with fail
              refine l4_loop _ w gm w1.heap.size w2.heap.size wb.heap.size cur T q (blocksL St0 q T) cc _ _ _ _ _ _ _ _ _ _ _ _ _ _ _ _ _ _ _ _ _ _ _ _ _ _ _ _ _ _ _ _ _ _ _ _ _ _ _ _ _ _ _ _ _ _ _ _ _ _ _ _ _ _ _ _ _ _ _ _ _ _ _ _ _ _ _ _ _ _ _ _ _ _ _ _ _ _ _ _ _ _ _ _ _ _ _ _ _ _ _ _ _ _ _ _ _ _ _ _ _ _ _ _ _ _ _ _ _ _ _ _ _ _ _ _ _ _ _ _ _ _ _ _ _ _ _ _ _ _ _ _ _ _ _ _ _ _ _ _ _ _ _ _ _ _ _ _ _ _ _ _ _ _ _ _ _ _ _ _ _ _ _ _ _ _ _ _ _ _ _ _ _ _ _ _ _ _ _ _ _ _ _ _ _ _ _ _ _ _ _ _ _ _ _ _ _ _ _ _ _ _ _ _ _ _ _ _ _ _ _ _ _ _ _ _ _ _ _ _ _ _ _ _ _ _ _ _ _ _ _ _ _ _ _ _ _ _ _ _ _ _ _ _ _ _ _ _ _ _ _ _ _ _ _ _ _ _ _ _ _ _ _ _ _ _ _ _ _ _ _ _ _ _ _ _ _ _ _ HCUR.out hd2 (by have := HTM.out; omega) HGE.out (HF0.out _ rfl).out ?_
              iterate 47 (intro _)
              intro wc H5
              have H5 := Aside0.mk H5
              clear HF0
              go_wp2_with fail
              refine l5_loop _ w gm w1.heap.size w2.heap.size wb.heap.size cur T q (blocksL St0 q T) _ _ _ _ _ _ _ _ _ _ _ _ _ _ _ _ _ _ _ _ _ _ _ _ _ _ _ _ _ _ _ _ _ _ _ _ _ _ _ _ _ _ _ _ _ _ _ _ _ _ _ _ _ _ _ _ _ _ _ _ _ _ _ _ _ _ _ _ _ _ _ _ _ _ _ _ _ _ _ _ _ _ _ _ _ _ _ _ _ _ _ _ _ _ _ _ _ _ _ _ _ _ _ _ _ _ _ _ _ _ _ _ _ _ _ _ _ _ _ _ _ _ _ _ _ _ _ _ _ _ _ _ _ _ _ _ _ _ _ _ _ _ _ _ _ _ _ _ _ _ _ _ _ _ _ _ _ _ _ _ _ _ _ _ _ _ _ _ _ _ _ _ _ _ _ _ _ _ _ _ _ _ _ _ _ _ _ _ _ _ _ _ _ _ _ _ _ _ _ _ _ _ _ _ _ _ _ _ _ _ _ _ _ _ _ _ _ _ _ _ _ _ _ _ _ _ _ _ _ _ _ _ _ _ _ _ _ _ _ _ _ _ _ _ _ _ _ _ _ _ _ _ _ _ _ _ _ _ _ _ _ _ _ _ _ _ _ _ _ _ _ _ _ _ _ _ _ _ _ _ _ HGE.out H5.out ?_
              iterate 55 (intro _)
              intro wd hs
              have hf64 : (filled (blkL T q) 64) = sched (blkL T q) 64 := by unfold filled; simp
              rw [hf64] at hs
              obtain ⟨s0, hs0⟩ : ∃ s0, s0 = blocksL St0 q T := ⟨_, rfl⟩
              rw [← hs0] at hs
              have HS0 := Aside0.mk hs0
              have hG := blk_lt hs.1
              have HGV := Aside0.mk (show gm ≠ wd.heap.size ∧ w1.heap.size ≠ wd.heap.size ∧ w2.heap.size ≠ wd.heap.size ∧ wb.heap.size ≠ wd.heap.size ∧ w.heap.size ≤ wd.heap.size from ⟨Nat.ne_of_lt (blk_lt hs.2.1), Nat.ne_of_lt (blk_lt hs.2.2.1), Nat.ne_of_lt (blk_lt hs.2.2.2.1), Nat.ne_of_lt hG, hs.2.2.2.2.size⟩)
              have hs := Aside0.mk hs
              clear hf64 hs0 hG H5
              go_upto_region 26 with (first
                | (refine wpList_load_row rfl 67 (.tmp 4) rfl w2.heap.size (by rfl) 67 s0.vs (0, 0) _ hs.out.2.2.2.1 Try.underlying67 rfl info_w8 ?_)
                | (refine wpList_store_arr rfl 67 (.tmp 14) (.tmp 159) rfl wd.heap.size s0.vs _ 67 (by rfl) (by rfl) (heap_new rfl) rfl info_w8 (one_vs _) ?_
                   intro w6 hg6 hgr6
                   have hb6 : Below wd.heap.size wd w6 := ((Below.refl wd.heap.size wd).alloc (Nat.le_refl _) _).grown hgr6 (by simp) (fun k hk => by cases hk; exact Nat.le_refl _)
                   have H6 := Aside0.mk (show w6.heap[wd.heap.size]? = some (.cells (rnds (sched (blkL T q) 64) s0 0).vs 67 (0, 0)) ∧ w6.heap[wb.heap.size]? = some (.cells ((sched (blkL T q) 64).map qv).toArray 73 (0, 0)) ∧ RE w gm cur w1.heap.size w2.heap.size s0 w6 from ⟨hg6, below_heap hb6 hs.out.1, hs.out.2.below hb6⟩)
                   clear hg6 hgr6 hb6 hs))
              go_wp2_with fail
              refine l6_loop _ w gm w1.heap.size w2.heap.size wb.heap.size wd.heap.size cur T q s0 _ _ _ _ _ _ _ _ _ _ _ _ _ _ _ _ _ _ _ _ _ _ _ _ _ _ _ _ _ _ _ _ _ _ _ _ _ _ _ _ _ _ _ _ _ _ _ _ _ _ _ _ _ _ _ _ _ _ _ _ _ _ _ _ _ _ _ _ _ _ _ _ _ _ _ _ _ _ _ _ _ _ _ _ _ _ _ _ _ _ _ _ _ _ _ _ _ _ _ _ _ _ _ _ _ _ _ _ _ _ _ _ _ _ _ _ _ _ _ _ _ _ _ _ _ _ _ _ _ _ _ _ _ _ _ _ _ _ _ _ _ _ _ _ _ _ _ _ _ _ _ _ _ _ _ _ _ _ _ _ _ _ _ _ _ _ _ _ _ _ _ _ _ _ _ _ _ _ _ _ _ _ _ _ _ _ _ _ _ _ _ _ _ _ _ _ _ _ _ _ _ _ _ _ _ _ _ _ _ _ _ _ _ _ _ _ _ _ _ _ _ _ _ _ _ _ _ _ _ _ _ _ _ _ _ _ _ _ _ _ _ _ _ _ _ _ _ _ _ _ _ _ _ _ _ _ _ _ _ _ _ _ _ _ _ _ _ _ _ _ _ _ _ _ _ _ _ _ _ HGV.out H6.out ?_
              iterate 86 (intro _)
              intro we hs
              obtain ⟨t, ht⟩ : ∃ t, t = rnds (sched (blkL T q) 64) s0 64 := ⟨_, rfl⟩
              rw [← ht] at hs
              have HT7 := Aside0.mk ht
              have HN8 : gm ≠ w2.heap.size := by have := hs.2.2.1; have h2 := hs.2.2.2.2.1; intro e; rw [e, h2] at this; injection this with this; injection this with _ this; exact absurd this (by decide)
              have hg := HG34.out
              have H7 := Aside0.mk (show (gm ≠ w2.heap.size ∧ w1.heap.size ≠ w2.heap.size ∧ w2.heap.size ≠ wd.heap.size ∧ w.heap.size ≤ w2.heap.size) ∧ we.heap[w2.heap.size]? = some (.cells ((part s0 t 0).map qv).toArray 67 (0, 0)) ∧ we.heap[wd.heap.size]? = some (.cells (t.l.map qv).toArray 67 (0, 0)) ∧ we.heap[gm]? = some (.cells cur 5 (0, 0)) ∧ we.heap[w1.heap.size]? = some (.cells (Ks.map qv).toArray 73 (0, 0)) ∧ Below w.heap.size w we from
                ⟨⟨HN8, by omega, HGV.out.2.2.1, by omega⟩, hs.2.2.2.2.1, hs.1, hs.2.2.1, hs.2.2.2.1, hs.2.2.2.2.2⟩)
              clear hs ht HN8 hg H6
              go_wp2_with fail
              refine l7_loop _ w gm w1.heap.size w2.heap.size wd.heap.size cur s0 t _ _ _ _ _ _ _ _ _ _ _ _ _ _ _ _ _ _ _ _ _ _ _ _ _ _ _ _ _ _ _ _ _ _ _ _ _ _ _ _ _ _ _ _ _ _ _ _ _ _ _ _ _ _ _ _ _ _ _ _ _ _ _ _ _ _ _ _ _ _ _ _ _ _ _ _ _ _ _ _ _ _ _ _ _ _ _ _ _ _ _ _ _ _ _ _ _ _ _ _ _ _ _ _ _ _ _ _ _ _ _ _ _ _ _ _ _ _ _ _ _ _ _ _ _ _ _ _ _ _ _ _ _ _ _ _ _ _ _ _ _ _ _ _ _ _ _ _ _ _ _ _ _ _ _ _ _ _ _ _ _ _ _ _ _ _ _ _ _ _ _ _ _ _ _ _ _ _ _ _ _ _ _ _ _ _ _ _ _ _ _ _ _ _ _ _ _ _ _ _ _ _ _ _ _ _ _ _ _ _ _ _ _ _ _ _ _ _ _ _ _ _ _ _ _ _ _ _ _ _ _ _ _ _ _ _ _ _ _ _ _ _ _ _ _ _ _ _ _ _ _ _ _ _ _ _ _ _ _ _ _ _ _ _ _ _ _ _ _ _ _ _ _ _ _ _ _ _ _ _ H7.out.1 H7.out.2 ?_
              iterate 13 (intro _)
              intro wg hs
              have hsf : s0.add t = blocksL St0 (q + 1) T := by
                rw [blocksL_succ, ← HS0.out]
                show _ = stepL s0 (blkL T q)
                unfold stepL
                rw [← HT7.out]
                simp [St.add, UInt32.add_comm]
              have H9 := Aside0.mk (show RE w gm cur w1.heap.size w2.heap.size (blocksL St0 (q + 1) T) wg from ⟨hs.2.2.1, hs.2.2.2.1, by rw [hs.1, part_eight, hsf]; rfl, hs.2.2.2.2⟩)
              clear hsf hs H7
              go_wp2_with fail
              go_roundw
              case rel => first | exact ⟨q + 1, by omega, by go_num, H9⟩ | ((repeat apply Exists.intro); exact ⟨⟨q + 1, by omega, by go_num, H9⟩, rfl⟩)
              case measure => simp [intOf]; omega
            · have hqN : q = N := by omega
              have hge : ¬ (64 * (q : Int)) < (T.length : Int) := by have := HTM.out; omega
              have hfin : blocksL St0 q T = stL T := by rw [stL, hqN]; congr 1; have := HT.out.2; omega
              obtain ⟨S, hS⟩ : ∃ S, S = stL T := ⟨_, rfl⟩
              rw [hfin, ← hS] at hs
              have HSS := Aside0.mk hS
              obtain ⟨wf, rfl⟩ : ∃ wf : World, wf = wr := ⟨_, rfl⟩
              have H8 := Aside0.mk (show wf.heap[w2.heap.size]? = some (.cells S.vs 67 (0, 0)) ∧ Below w.heap.size w wf from ⟨hs.out.2.2.1, hs.out.2.2.2⟩)
              clear hs hS hfin hqN hlt
              go_wp2_with fail
              refine l8_loop _ w2.heap.size S _ _ _ _ _ _ _ _ _ _ _ _ _ _ _ _ _ _ _ _ _ _ _ _ _ _ _ _ _ _ _ _ _ _ _ _ _ _ _ _ _ _ _ _ _ _ _ _ _ _ _ _ _ _ _ _ _ _ _ _ _ _ _ _ _ _ _ _ _ _ _ _ _ _ _ _ _ _ _ _ _ _ _ _ _ _ _ _ _ _ _ _ _ _ _ _ _ _ _ _ _ _ _ _ _ _ _ _ _ _ _ _ _ _ _ _ _ _ _ _ _ _ _ _ _ _ _ _ _ _ _ _ _ _ _ _ _ _ _ _ _ _ _ _ _ _ _ _ _ _ _ _ _ _ _ _ _ _ _ _ _ _ _ _ _ _ _ _ _ _ _ _ _ _ _ _ _ _ _ _ _ _ _ _ _ _ _ _ _ _ _ _ _ _ _ _ _ _ _ _ _ _ _ _ _ _ _ _ _ _ _ _ _ _ _ _ _ _ _ _ _ _ _ _ _ _ _ _ _ _ _ _ _ _ _ _ _ _ _ _ _ _ _ _ _ _ _ _ _ _ _ _ _ _ _ _ _ _ _ _ _ _ _ _ _ _ _ _ _ _ _ _ _ _ _ _ _ _ _ _ H8.out.1 ?_
              intro u21
              iterate 26 (intro _)
              intro wh hs2
              have HS2 := Aside0.mk hs2
              clear hs2
              go_wp2_with fail
              go_ret
              have hfin : outL S 8 = shaL b := by rw [outL_eight, HSS.out, shaL_eq, HT.out.1]
              have hs2 := HS2.out
              rw [hfin] at hs2
              exact ⟨_, rfl, own_mono hs2.1 H8.out.2.size, below_step H8.out.2 hs2.2⟩
end
end Go.Proofs.Ytdikconhdbopdaa
