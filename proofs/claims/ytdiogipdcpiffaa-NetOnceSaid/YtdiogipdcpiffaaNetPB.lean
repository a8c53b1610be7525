/- The arms [2] of the walk of NetOnce. -/
import Derived.Test.YtdiogipdcpiffaaNetP
set_option linter.unusedVariables false
set_option maxHeartbeats 400000
set_option maxRecDepth 10000
namespace Go.Proofs.Ytdiogipdcpiffaa
open Go.RowKit

set_option maxRecDepth 100000 in
set_option maxHeartbeats 4000000 in
theorem once_arm2 {A : Nat → Prop} (w : World) (v : Value) (l : List Ac) (HV0 : Hid (Acts w A v l)) (HOK : Hid (∀ x ∈ l, x.ok)) (hn : l.length ≤ 9223372036854775807) (HB : Hid (∀ x ∈ l, x.bytes.length ≤ 9223372036854775807)) (hf : fewOf l 50 = true) (HA : Hid (∀ k, A k → k < w.heap.size)) :
    (once_cut w v l HV0 HOK hn HB hf HA).P2 := by
  delta once_cut
  intro hl50 c HS Q' w1 b K wr u2 u8 u9 u10 u11 u12 u13 u14 u15 u24 u25 u26 u27 u28 u29 u30 u31 u32 u33 u34 u35 u36 u37 u38 u39 u40 u41 u42 u43 u44 u45 u46 u47 u48 u49 u50 u51 u52 u53 u54 u55 u56 u57 u58 u59 u60 u61 u62 u63 u64 u65 u66 u67 u68 u69 u70 u71 u72 u73 u74 u75 u76 u77 u78 u79 u80 u81 u82 u83 u84 u85 u86 u87 u88 u89 u90 u91 u92 u93 u94 u95 u96 u97 u98 u99 u100 u101 u102 u103 u104 u105 u106 u107 u108 u109 u110 u111 u112 u113 u114 u115 u116 u117 u118 u119 u120 u121 u122 u123 u124 u125 u126 u127 u128 u129 u130 u131 u132 u133 u134 u135 u136 u137 u138 u139 u140 u141 u142 u143 u144 u145 u146 u147 u148 u149 u150 u151 u152 u153 u154 u155 u156 u157 u158 u159 u160 u161 u162 u163 u164 u165 u166 u167 u168 u169 u170 u171 u172 u173 k hk N put gone F M cs hpl hgl HI hcame HFR ap cp ag cg HO hlt bb o HV HAT hc hAb hbb a4 n4 xs xd xp xb xi hxl i1 i2 i3 i5 i4 H1 H2 H3 HX hbw i0 e0 b0 e1 b1 he
  have hpe : N.pickErr xs xd = 0 := by
    unfold NA.peekErr at he
    by_cases h0 : N.pickErr xs xd = 0
    · exact h0
    · rw [if_neg h0] at he; exact absurd he h0
  have hgot := NA.got_at (p := xp) hpe
  obtain ⟨y, hy⟩ : ∃ y, N.got xs xd xp = y := ⟨_, rfl⟩
  have hdn : (y.src, y.dst) ∉ N.downs := fun hm => by
    unfold NA.peekErr at he
    rw [if_pos hpe, hy, if_pos hm] at he; cases he
  have hr : N.takeR xs xd xp = (N.without (N.iOf xs xd xp), y, 0) := by unfold NA.takeR; rw [if_pos he, hy]
  rw [hy] at hgot
  have hym := List.mem_of_getElem? hgot
  have hyp : y.num < put.length := HI.out.lt hym
  have hyok := HO.out.rig.net.ok y hym
  have hye := HO.out.rig.net.e1
  have HPY := Lib.hid (HI.out.has y hym)
  have HI' := Lib.hid (HI.out.without _ y hgot)
  have HG := Lib.hid (show ∀ g ∈ gone, g ≠ y.num from fun g hg h => (HI.out.gn g hg).2 y hym h.symm)
  have HR := Lib.hid hr
  have HDN := Lib.hid (decide_eq_false hdn)
  clear hr hgot hy he hpe hym hdn
  go_wp2_with fail
  have bx0 := (Box.new wr 36 [.int .i64 2, .int .i64 xs, .int .i64 xd, .int .i64 xp, .slice a4 xb.length n4, .bool xi])
  have ex : Ext wr (wr.alloc (Obj.cells #[.int .i64 2, .int .i64 xs, .int .i64 xd, .int .i64 xp, .slice a4 xb.length n4, .bool xi] 36)) := ((Keeps.refl NoB wr).alloc _)
  have sx : (wr.alloc (Obj.cells #[.int .i64 2, .int .i64 xs, .int .i64 xd, .int .i64 xp, .slice a4 xb.length n4, .bool xi] 36)).heap.size = wr.heap.size + 1 := by simp
  generalize (wr.alloc (Obj.cells #[.int .i64 2, .int .i64 xs, .int .i64 xd, .int .i64 xp, .slice a4 xb.length n4, .bool xi] 36)) = w2 at bx0 ex sx ⊢
  have Sx := Lib.hid sx
  clear sx
  have BX := Lib.hid bx0
  have h12 := ex.size
  replace HO := Lib.hid (HO.out.ext ex)
  replace HX := Lib.hid (HX.out.ext ex)
  clear ex bx0 i0 i1 i2 i3 i4 i5
  refine (take_any w2 b N xs xd xp HO.out.rig.net H3.out _ y 0 0 HR.out rfl).mono ?_
  rintro e w3 ⟨F', M', bv, rfl, hb3, hn3, hs⟩
  obtain ⟨a7, c7, rfl⟩ := hb3.len
  have HO3 := Lib.hid (HO.out.step hn3 hs)
  have HB3 := Lib.hid hb3
  clear hn3 hs HO BX hb3
  go_wp2_with fail
  have bq0 := (Box.new w3 50 [.int .i64 (y.num : Int), .int .i64 y.src, .int .i64 y.dst, .slice a7 y.bytes.length c7])
  have eq : Ext w3 (w3.alloc (Obj.cells #[.int .i64 (y.num : Int), .int .i64 y.src, .int .i64 y.dst, .slice a7 y.bytes.length c7] 50)) := ((Keeps.refl NoB w3).alloc _)
  have sq : (w3.alloc (Obj.cells #[.int .i64 (y.num : Int), .int .i64 y.src, .int .i64 y.dst, .slice a7 y.bytes.length c7] 50)).heap.size = w3.heap.size + 1 := by simp
  generalize (w3.alloc (Obj.cells #[.int .i64 (y.num : Int), .int .i64 y.src, .int .i64 y.dst, .slice a7 y.bytes.length c7] 50)) = w4 at bq0 eq sq ⊢
  have Sq := Lib.hid sq
  clear sq
  have BQ := Lib.hid bq0
  replace HO3 := Lib.hid (HO3.out.ext eq)
  replace HB3 := Lib.hid (HB3.out.ext eq)
  clear eq bq0
  obtain ⟨gp, op, cap, hv, hg1, hg2, hg3, hg4⟩ := HO3.out.pw.form (by omega)
  simp only [Value.slice.injEq] at hv
  obtain ⟨rfl, -, rfl⟩ := hv
  obtain ⟨cc, k1, ⟨bv2, k2, k4⟩, k3⟩ := HO3.out.pr.get y.num hyp
  have hpy : put[y.num] = y := by have := HPY.out; rw [List.getElem?_eq_getElem hyp] at this; injection this
  rw [hpy] at k2 k4
  obtain ⟨a8, c8, rfl⟩ := k4.len
  have HB8 := Lib.hid k4
  have p0 : w4.cell? ⟨gp, op + y.num * 4, none⟩ = some (.int .i64 (y.num : Int)) := hg4 _ _ (by have := k3 0 (by decide); rw [k2] at this; simpa using this)
  have p1 : w4.cell? ⟨gp, op + y.num * 4 + 1, none⟩ = some (.int .i64 y.src) := by have := hg4 (y.num * 4 + 1) _ (by have := k3 1 (by decide); rw [k2] at this; simpa using this); rwa [← Nat.add_assoc] at this
  have p2 : w4.cell? ⟨gp, op + y.num * 4 + 2, none⟩ = some (.int .i64 y.dst) := by have := hg4 (y.num * 4 + 2) _ (by have := k3 2 (by decide); rw [k2] at this; simpa using this); rwa [← Nat.add_assoc] at this
  have p3 : w4.cell? ⟨gp, op + y.num * 4 + 3, none⟩ = some (.slice a8 y.bytes.length c8) := by have := hg4 (y.num * 4 + 3) _ (by have := k3 3 (by decide); rw [k2] at this; simpa using this); rwa [← Nat.add_assoc] at this
  have hy0 : decide ((y.num : Int) < 0) = false := by simp
  have hy1 : decide (put.length ≤ y.num) = false := by simp; omega
  have hy2 : (y.num : Int) < (put.length : Int) := by omega
  clear hg4 k1 k2 k3 k4 hpy
  obtain ⟨cBQ, zBQ⟩ := BQ.out.reads
  have lBQ := BQ.out.lt
  have hE0 : Keeps NoB w4 w4.drew := (Keeps.refl _ _).drew
  refine wp_region_plan [(0, 0), (2, 1), (0, 2), (0, 3), (0, 4), (1, 5), (0, 6), (0, 7), (0, 8), (1, 9), (0, 10), (0, 11), (0, 12), (0, 13), (0, 14), (1, 15), (0, 16), (0, 17), (1, 18), (0, 19), (1, 20), (2, 21), (0, 22), (0, 23), (0, 24), (0, 25), (0, 26), (1, 27), (0, 28), (1, 29)] [5, 9, 15, 18, 20, 27, 29] [1, 21, 30, 31, 32] [30, 31, 32] (ClsE w4) (by kernel_rfl) (by kernel_rfl) (plan2 (by kernel_rfl)) rfl rfl (ClsE.of hE0) (fun _ _ _ d _ h => by cases d <;> exact h) ?_; simp only [planL, List.getElem?_toArray, List.getElem?_cons_succ, List.getElem?_cons_zero]
  refine plan_pure rfl (fun K hK => quiet_move' _ rfl (hK _ ?_)); clear hK K; simp only [Act.put, Act.eval, Array.getD_eq_getD_getElem?, List.getElem?_toArray, List.getElem?_cons_zero, List.getElem?_cons_succ, Option.getD_some, List.setIfInBounds_toArray, List.set_cons_zero, List.set_cons_succ]
  refine plan_does rfl (fun K hK => ?_)
  go_wp2_with fail
  refine (num_any _ _).mono ?_
  rintro e w' ⟨rfl, rfl⟩
  refine hK _ _ ⟨ClsE.of (by assumption), ?_⟩; clear hK K; try simp only [Act.put, List.setIfInBounds_toArray, List.set_cons_zero, List.set_cons_succ]
  refine plan_pure rfl (fun K hK => quiet_run (v := ?_) (fun W _ => ?_) (hK _ ?_)); rotate_left; (go_simp <;> with_reducible rfl); clear hK K; simp only [Act.put, List.setIfInBounds_toArray, List.set_cons_zero, List.set_cons_succ]
  refine plan_pure rfl (fun K hK => quiet_move' _ rfl (hK _ ?_)); clear hK K; simp only [Act.put, Act.eval, Array.getD_eq_getD_getElem?, List.getElem?_toArray, List.getElem?_cons_zero, List.getElem?_cons_succ, Option.getD_some, List.setIfInBounds_toArray, List.set_cons_zero, List.set_cons_succ]
  first
  | (refine plan_skip rfl ?_; simp only [Act.put, List.setIfInBounds_toArray, List.set_cons_zero, List.set_cons_succ])
  | (refine plan_pure rfl (fun K hK => quiet_run (v := ?_) (fun W _ => ?_) (hK _ ?_)); rotate_left; (go_simp <;> with_reducible rfl); clear hK K; simp only [Act.put, List.setIfInBounds_toArray, List.set_cons_zero, List.set_cons_succ])
  first
  | (refine plan_skip rfl ?_; simp only [Act.put, List.setIfInBounds_toArray, List.set_cons_zero, List.set_cons_succ])
  | (refine plan_load rfl (fun K hK => quiet_runE (v := ?_) (fun W => ?_) (hK _ ?_)); rotate_left; (go_simp <;> with_reducible rfl); clear hK K; simp only [Act.put, List.setIfInBounds_toArray, List.set_cons_zero, List.set_cons_succ])
  first
  | (refine plan_skip rfl ?_; simp only [Act.put, List.setIfInBounds_toArray, List.set_cons_zero, List.set_cons_succ])
  | (refine plan_pure rfl (fun K hK => quiet_run (v := ?_) (fun W _ => ?_) (hK _ ?_)); rotate_left; (go_simp <;> with_reducible rfl); clear hK K; simp only [Act.put, List.setIfInBounds_toArray, List.set_cons_zero, List.set_cons_succ])
  first
  | (refine plan_skip rfl ?_; simp only [Act.put, List.setIfInBounds_toArray, List.set_cons_zero, List.set_cons_succ])
  | (refine plan_pure rfl (fun K hK => quiet_move' _ rfl (hK _ ?_)); clear hK K; simp only [Act.put, Act.eval, Array.getD_eq_getD_getElem?, List.getElem?_toArray, List.getElem?_cons_zero, List.getElem?_cons_succ, Option.getD_some, List.setIfInBounds_toArray, List.set_cons_zero, List.set_cons_succ])
  first
  | (refine plan_skip rfl ?_; simp only [Act.put, List.setIfInBounds_toArray, List.set_cons_zero, List.set_cons_succ])
  | (refine plan_pure rfl (fun K hK => quiet_run (v := ?_) (fun W _ => ?_) (hK _ ?_)); rotate_left; (go_simp <;> with_reducible rfl); clear hK K; simp only [Act.put, List.setIfInBounds_toArray, List.set_cons_zero, List.set_cons_succ])
  first
  | (refine plan_skip rfl ?_; simp only [Act.put, List.setIfInBounds_toArray, List.set_cons_zero, List.set_cons_succ])
  | (refine plan_load rfl (fun K hK => quiet_runE (v := ?_) (fun W => ?_) (hK _ ?_)); rotate_left; (go_simp <;> with_reducible rfl); clear hK K; simp only [Act.put, List.setIfInBounds_toArray, List.set_cons_zero, List.set_cons_succ])
  first
  | (refine plan_skip rfl ?_; simp only [Act.put, List.setIfInBounds_toArray, List.set_cons_zero, List.set_cons_succ])
  | (refine plan_pure rfl (fun K hK => quiet_move' _ rfl (hK _ ?_)); clear hK K; simp only [Act.put, Act.eval, Array.getD_eq_getD_getElem?, List.getElem?_toArray, List.getElem?_cons_zero, List.getElem?_cons_succ, Option.getD_some, List.setIfInBounds_toArray, List.set_cons_zero, List.set_cons_succ])
  first
  | (refine plan_skip rfl ?_; simp only [Act.put, List.setIfInBounds_toArray, List.set_cons_zero, List.set_cons_succ])
  | (refine plan_pure rfl (fun K hK => quiet_run (v := ?_) (fun W _ => ?_) (hK _ ?_)); rotate_left; (go_simp <;> with_reducible rfl); clear hK K; simp only [Act.put, List.setIfInBounds_toArray, List.set_cons_zero, List.set_cons_succ])
  first
  | (refine plan_skip rfl ?_; simp only [Act.put, List.setIfInBounds_toArray, List.set_cons_zero, List.set_cons_succ])
  | (refine plan_pure rfl (fun K hK => quiet_run (v := ?_) (fun W _ => ?_) (hK _ ?_)); rotate_left; (go_simp <;> with_reducible rfl); clear hK K; simp only [Act.put, List.setIfInBounds_toArray, List.set_cons_zero, List.set_cons_succ])
  first
  | (refine plan_skip rfl ?_; simp only [Act.put, List.setIfInBounds_toArray, List.set_cons_zero, List.set_cons_succ])
  | (refine plan_pure rfl (fun K hK => quiet_run (v := ?_) (fun W _ => ?_) (hK _ ?_)); rotate_left; (go_simp <;> with_reducible rfl); clear hK K; simp only [Act.put, List.setIfInBounds_toArray, List.set_cons_zero, List.set_cons_succ])
  first
  | (refine plan_skip rfl ?_; simp only [Act.put, List.setIfInBounds_toArray, List.set_cons_zero, List.set_cons_succ])
  | (refine plan_pure rfl (fun K hK => quiet_move' _ rfl (hK _ ?_)); clear hK K; simp only [Act.put, Act.eval, Array.getD_eq_getD_getElem?, List.getElem?_toArray, List.getElem?_cons_zero, List.getElem?_cons_succ, Option.getD_some, List.setIfInBounds_toArray, List.set_cons_zero, List.set_cons_succ])
  first
  | (refine plan_skip rfl ?_; simp only [Act.put, List.setIfInBounds_toArray, List.set_cons_zero, List.set_cons_succ])
  | (refine plan_load rfl (fun K hK => quiet_runE (v := ?_) (fun W => ?_) (hK _ ?_)); rotate_left; (go_simp <;> with_reducible rfl); clear hK K; simp only [Act.put, List.setIfInBounds_toArray, List.set_cons_zero, List.set_cons_succ])
  first
  | (refine plan_skip rfl ?_; simp only [Act.put, List.setIfInBounds_toArray, List.set_cons_zero, List.set_cons_succ])
  | (refine plan_pure rfl (fun K hK => quiet_move' _ rfl (hK _ ?_)); clear hK K; simp only [Act.put, Act.eval, Array.getD_eq_getD_getElem?, List.getElem?_toArray, List.getElem?_cons_zero, List.getElem?_cons_succ, Option.getD_some, List.setIfInBounds_toArray, List.set_cons_zero, List.set_cons_succ])
  first
  | (refine plan_skip rfl ?_; simp only [Act.put, List.setIfInBounds_toArray, List.set_cons_zero, List.set_cons_succ])
  | (refine plan_pure rfl (fun K hK => quiet_run (v := ?_) (fun W _ => ?_) (hK _ ?_)); rotate_left; (go_simp <;> with_reducible rfl); clear hK K; simp only [Act.put, List.setIfInBounds_toArray, List.set_cons_zero, List.set_cons_succ])
  first
  | (refine plan_skip rfl ?_; simp only [Act.put, List.setIfInBounds_toArray, List.set_cons_zero, List.set_cons_succ])
  | (refine plan_load rfl (fun K hK => quiet_runE (v := ?_) (fun W => ?_) (hK _ ?_)); rotate_left; (go_simp <;> with_reducible rfl); clear hK K; simp only [Act.put, List.setIfInBounds_toArray, List.set_cons_zero, List.set_cons_succ])
  first
  | (refine plan_skip rfl ?_; simp only [Act.put, List.setIfInBounds_toArray, List.set_cons_zero, List.set_cons_succ])
  | (refine plan_pure rfl (fun K hK => quiet_run (v := ?_) (fun W _ => ?_) (hK _ ?_)); rotate_left; (go_simp <;> with_reducible rfl); clear hK K; simp only [Act.put, List.setIfInBounds_toArray, List.set_cons_zero, List.set_cons_succ])
  first
  | (refine plan_skip rfl ?_; simp only [Act.put, List.setIfInBounds_toArray, List.set_cons_zero, List.set_cons_succ])
  | (refine plan_load rfl (fun K hK => quiet_runE (v := ?_) (fun W => ?_) (hK _ ?_)); rotate_left; (go_simp <;> with_reducible rfl); clear hK K; simp only [Act.put, List.setIfInBounds_toArray, List.set_cons_zero, List.set_cons_succ])
  first
  | (refine plan_skip rfl ?_; simp only [Act.put, List.setIfInBounds_toArray, List.set_cons_zero, List.set_cons_succ])
  | (refine plan_does rfl (fun K hK => ?_))
  go_wp2_with fail
  refine (same_par _ y y _ _ ⟨_, rfl, HB3.out.ext hE0⟩ ⟨_, rfl, HB8.out.ext hE0⟩).mono ?_
  rintro e w5 ⟨rfl, hE5⟩
  rw [sameP_self]
  have hE05 := hE0.ext hE5
  refine hK _ _ ⟨ClsE.of (by assumption), ?_⟩; clear hK K; try simp only [Act.put, List.setIfInBounds_toArray, List.set_cons_zero, List.set_cons_succ]
  first
  | (refine plan_skip rfl ?_; simp only [Act.put, List.setIfInBounds_toArray, List.set_cons_zero, List.set_cons_succ])
  | (refine plan_pure rfl (fun K hK => quiet_run (v := ?_) (fun W _ => ?_) (hK _ ?_)); rotate_left; (go_simp <;> with_reducible rfl); clear hK K; simp only [Act.put, List.setIfInBounds_toArray, List.set_cons_zero, List.set_cons_succ])
  first
  | (refine plan_skip rfl ?_; simp only [Act.put, List.setIfInBounds_toArray, List.set_cons_zero, List.set_cons_succ])
  | (refine plan_pure rfl (fun K hK => quiet_run (v := ?_) (fun W _ => ?_) (hK _ ?_)); rotate_left; (go_simp <;> with_reducible rfl); clear hK K; simp only [Act.put, List.setIfInBounds_toArray, List.set_cons_zero, List.set_cons_succ])
  first
  | (refine plan_skip rfl ?_; simp only [Act.put, List.setIfInBounds_toArray, List.set_cons_zero, List.set_cons_succ])
  | (refine plan_pure rfl (fun K hK => quiet_move' _ rfl (hK _ ?_)); clear hK K; simp only [Act.put, Act.eval, Array.getD_eq_getD_getElem?, List.getElem?_toArray, List.getElem?_cons_zero, List.getElem?_cons_succ, Option.getD_some, List.setIfInBounds_toArray, List.set_cons_zero, List.set_cons_succ])
  first
  | (refine plan_skip rfl ?_; simp only [Act.put, List.setIfInBounds_toArray, List.set_cons_zero, List.set_cons_succ])
  | (refine plan_pure rfl (fun K hK => quiet_move' _ rfl (hK _ ?_)); clear hK K; simp only [Act.put, Act.eval, Array.getD_eq_getD_getElem?, List.getElem?_toArray, List.getElem?_cons_zero, List.getElem?_cons_succ, Option.getD_some, List.setIfInBounds_toArray, List.set_cons_zero, List.set_cons_succ])
  first
  | (refine plan_skip rfl ?_; simp only [Act.put, List.setIfInBounds_toArray, List.set_cons_zero, List.set_cons_succ])
  | (refine plan_pure rfl (fun K hK => quiet_run (v := ?_) (fun W _ => ?_) (hK _ ?_)); rotate_left; (go_simp <;> with_reducible rfl); clear hK K; simp only [Act.put, List.setIfInBounds_toArray, List.set_cons_zero, List.set_cons_succ])
  first
  | (refine plan_skip rfl ?_; simp only [Act.put, List.setIfInBounds_toArray, List.set_cons_zero, List.set_cons_succ])
  | (refine plan_load rfl (fun K hK => quiet_runE (v := ?_) (fun W => ?_) (hK _ ?_)); rotate_left; (go_simp <;> with_reducible rfl); clear hK K; simp only [Act.put, List.setIfInBounds_toArray, List.set_cons_zero, List.set_cons_succ])
  first
  | (refine plan_skip rfl ?_; simp only [Act.put, List.setIfInBounds_toArray, List.set_cons_zero, List.set_cons_succ])
  | (refine plan_pure rfl (fun K hK => quiet_run (v := ?_) (fun W _ => ?_) (hK _ ?_)); rotate_left; (go_simp <;> with_reducible rfl); clear hK K; simp only [Act.put, List.setIfInBounds_toArray, List.set_cons_zero, List.set_cons_succ])
  first
  | (refine plan_skip rfl ?_; simp only [Act.put, List.setIfInBounds_toArray, List.set_cons_zero, List.set_cons_succ])
  | (refine plan_load rfl (fun K hK => quiet_runE (v := ?_) (fun W => ?_) (hK _ ?_)); rotate_left; (go_simp <;> with_reducible rfl); clear hK K; simp only [Act.put, List.setIfInBounds_toArray, List.set_cons_zero, List.set_cons_succ])
  refine plan_nil ?_; simp only [tailL, List.filterMap_cons, List.filterMap_nil, List.getElem?_toArray, List.getElem?_cons_succ, List.getElem?_cons_zero]; change wpList _ _ _ (_ :: _ :: _ :: []) _ _
  clear cBQ zBQ lBQ
  replace HO3 := Lib.hid (HO3.out.ext hE05)
  replace BQ := Lib.hid (BQ.out.ext hE05)
  clear hE5 hE05 p0 p1 p2 p3
  go_wp2_with fail
  refine (isdown_any w5 b _ y.src y.dst HO3.out.rig.net (by unfold I64; omega) (by unfold I64; omega)).mono ?_
  rintro e w' ⟨rfl, rfl⟩
  have hdd : decide ((y.src, y.dst) ∈ (N.without (N.iOf xs xd xp)).downs) = false := HDN.out
  rw [hdd]
  clear hdd
  obtain ⟨cBQ, zBQ⟩ := BQ.out.reads
  have lBQ := BQ.out.lt
  go_wp2_with fail
  refine (num_any _ _).mono ?_
  rintro e w' ⟨rfl, rfl⟩
  go_wp2_with fail
  have hyn : ¬ ((y.num : Int) < 0) := by omega
  have hyl : ¬ ((put.length : Int) ≤ (y.num : Int)) := by omega
  go_loop [15] (fun i => ∃ j : Nat, j ≤ gone.length ∧ i = .int .i64 j) (fun i => gone.length - (intOf i).toNat)
  case atStart => exact ⟨0, Nat.zero_le _, rfl⟩
  case round =>
    obtain ⟨j, hj, rfl⟩ := hrel
    by_cases hjl : j < gone.length
    · obtain ⟨g, o2, cap, hv, hg1, hg2, hg3, hg4⟩ := HO3.out.gw.form (by omega)
      simp only [Value.slice.injEq] at hv
      obtain ⟨rfl, -, rfl⟩ := hv
      have hcj := hg4 j (intV gone[j]) (by rw [List.getElem?_map, List.getElem?_eq_getElem hjl]; rfl)
      unfold intV at hcj
      have hne := HG.out gone[j] (List.getElem_mem hjl)
      obtain ⟨gg, hgg⟩ : ∃ gg, gone[j] = gg := ⟨_, rfl⟩
      rw [hgg] at hcj hne
      have hne2 : ((gg : Int) == (y.num : Int)) = false := beq_eq_false_iff_ne.2 (by omega)
      clear hg4 hgg hne
      go_wp2_with fail
      go_round
      case rel => exact ⟨j + 1, by omega, by go_num⟩
      case measure => simp [intOf]; omega
    · obtain rfl : j = gone.length := by omega
      go_wp2_with (at_builtin; refine standing ?_)
      have bz0 := (Box.new w5 2 [.int .i64 (y.num : Int)])
      have ez : Ext w5 (w5.alloc (Obj.cells #[.int .i64 (y.num : Int)] 2)) := ((Keeps.refl NoB w5).alloc _)
      have sz : (w5.alloc (Obj.cells #[.int .i64 (y.num : Int)] 2)).heap.size = w5.heap.size + 1 := by simp
      generalize (w5.alloc (Obj.cells #[.int .i64 (y.num : Int)] 2)) = w6 at bz0 ez sz ⊢
      have Sz := Lib.hid sz
      clear sz
      have HO4 := Lib.hid (HO3.out.ext ez)
      have hbase := HO4.out.rig.E.size
      obtain ⟨v9, w9, hr9, hwin9, hk9, ho9⟩ := append_long w6 w.heap.size _ gone 58 HO4.out.gw y.num w5.heap.size bz0 (by omega) hbase
      obtain ⟨M5, ho9'⟩ := HO4.out.away hk9 hwin9 ho9
      have HR9 : Hid (OMX w w9 A b (.slice (some ⟨gp, op, none⟩) put.length cp) v9 (k + 1)) := Lib.hid ⟨_, _, _, _, _, _, ho9', HI'.out, by omega, by rw [List.length_append]; simp; omega⟩
      obtain ⟨a5, c5, rfl⟩ := hwin9.len
      have hl5 : (gone ++ [y.num]).length = gone.length + 1 := by simp
      rw [hl5] at HR9
      clear hl5
      clear ez bz0 hwin9 hk9 ho9 ho9'
      refine ⟨?_⟩
      refine wpList_append_ran rfl _ _ hr9 rfl rfl rfl ?_
      clear hr9
      go_wp2_with fail
      go_roundw
      case rel => exact ⟨k + 1, by omega, by go_num, HR9⟩
      case measure => simp [intOf]; omega
end Go.Proofs.Ytdiogipdcpiffaa
