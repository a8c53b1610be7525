/- Texts SaidEq, Lone, one behind the other. Conditions: as each says. -/
import Derived.Test.YtoadjbgpfihoiaaGreatDoorPlQ
set_option linter.unusedVariables false
set_option linter.unusedSimpArgs false
set_option maxHeartbeats 8000000
set_option maxRecDepth 100000
namespace Go.Proofs.YtoadjbgpfihoiaaGreatDoor
open Go.RowKit
theorem str_eq (l m : List UInt8) : ((bs l).toList == (bs m).toList) = decide (l = m) := by
 rw [bs_toList, bs_toList, Bool.eq_iff_iff]; simp
theorem int_eq (a b : Int) : (a == b) = decide (a = b) := by rw [Bool.eq_iff_iff]; simp
theorem boo_eq (a b : Bool) : (a == b) = decide (a = b) := by rw [Bool.eq_iff_iff]; simp
theorem eqIn_en (x y : En) (d : Nat) (W : World) : (Op.equalIn (d + 2) 35 x.v y.v).run Tryz.prog W = .ok (decide (x = y)) W := by
 unfold En.v; rw [run_equalIn_struct W (d + 1) 35 _ _ (by kernel_rfl) (by kernel_rfl)]; obtain ⟨f, hf⟩ : ∃ f : En → Array Value, f = fun z => #[Value.int .i64 z.kind, .int .i64 z.member, .int .i64 z.number, .string (bs z.text)] := ⟨_, rfl⟩
 have hx : ∀ z : En, #[Value.int .i64 z.kind, .int .i64 z.member, .int .i64 z.number, .string (bs z.text)] = f z := fun z => by rw [hf]
 have p0 : ∀ z : En, (part 33 (f z) 0).run Tryz.prog W = .ok (.int .i64 z.kind) W := fun z => by rw [hf]; exact run_part_plain W (by kernel_rfl) rfl
 have p1 : ∀ z : En, (part 3 (f z) 1).run Tryz.prog W = .ok (.int .i64 z.member) W := fun z => by rw [hf]; exact run_part_plain W (by kernel_rfl) rfl
 have p2 : ∀ z : En, (part 2 (f z) 2).run Tryz.prog W = .ok (.int .i64 z.number) W := fun z => by rw [hf]; exact run_part_plain W (by kernel_rfl) rfl
 have p3 : ∀ z : En, (part 9 (f z) 3).run Tryz.prog W = .ok (.string (bs z.text)) W := fun z => by rw [hf]; exact run_part_plain W (by kernel_rfl) rfl
 rw [hx x, hx y]; clear hf hx; have q0 := run_equalIn_int W d 33 .i64 .i64 x.kind y.kind Tryz.underlying33; have q1 := run_equalIn_int W d 3 .i64 .i64 x.member y.member Tryz.underlying3; have q2 := run_equalIn_int W d 2 .i64 .i64 x.number y.number Tryz.underlying2; have q3 := run_equalIn_string W d 9 (bs x.text) (bs y.text) Tryz.underlying9; rw [str_eq] at q3; rw [int_eq] at q0 q1 q2
 have he : decide (x = y) = (decide (x.kind = y.kind) && (decide (x.member = y.member) && (decide (x.number = y.number) && decide (x.text = y.text)))) := by
  obtain ⟨a, b, c, e⟩ := x; obtain ⟨a', b', c', e'⟩ := y; rw [Bool.eq_iff_iff]; simp
 rw [he]; simp only [Program.fieldsOf, Tryz.underlying35, Op.eqFields]; obtain ⟨g0, hg0⟩ : ∃ g : En → Value, g = fun z => Value.int .i64 z.kind := ⟨_, rfl⟩
 have u0 : ∀ z : En, Value.int .i64 z.kind = g0 z := fun z => by rw [hg0]
 simp only [u0] at p0; rw [u0 x, u0 y] at q0; clear u0 hg0; obtain ⟨g1, hg1⟩ : ∃ g : En → Value, g = fun z => Value.int .i64 z.member := ⟨_, rfl⟩
 have u1 : ∀ z : En, Value.int .i64 z.member = g1 z := fun z => by rw [hg1]
 simp only [u1] at p1; rw [u1 x, u1 y] at q1; clear u1 hg1; obtain ⟨g2, hg2⟩ : ∃ g : En → Value, g = fun z => Value.int .i64 z.number := ⟨_, rfl⟩
 have u2 : ∀ z : En, Value.int .i64 z.number = g2 z := fun z => by rw [hg2]
 simp only [u2] at p2; rw [u2 x, u2 y] at q2; clear u2 hg2; obtain ⟨g3, hg3⟩ : ∃ g : En → Value, g = fun z => Value.string (bs z.text) := ⟨_, rfl⟩
 have u3 : ∀ z : En, Value.string (bs z.text) = g3 z := fun z => by rw [hg3]
 simp only [u3] at p3; rw [u3 x, u3 y] at q3; clear u3 hg3; obtain ⟨b0, hb0⟩ : ∃ b, decide (x.kind = y.kind) = b := ⟨_, rfl⟩; rw [hb0] at q0 ⊢; clear hb0; obtain ⟨b1, hb1⟩ : ∃ b, decide (x.member = y.member) = b := ⟨_, rfl⟩; rw [hb1] at q1 ⊢; clear hb1; obtain ⟨b2, hb2⟩ : ∃ b, decide (x.number = y.number) = b := ⟨_, rfl⟩; rw [hb2] at q2 ⊢; clear hb2; obtain ⟨b3, hb3⟩ : ∃ b, decide (x.text = y.text) = b := ⟨_, rfl⟩; rw [hb3] at q3 ⊢; clear hb3; cases b0
 case false => simp [p0, q0, Result.andThen]
 cases b1
 case false => simp [p0, q0, p1, q1, Result.andThen]
 cases b2
 case false => simp [p0, q0, p1, q1, p2, q2, Result.andThen]
 cases b3
 case false => simp [p0, q0, p1, q1, p2, q2, p3, q3, Result.andThen]
 simp [p0, q0, p1, q1, p2, q2, p3, q3, Result.andThen]
theorem eqIn_sd (x y : Sd) (d : Nat) (W : World) : (Op.equalIn (d + 3) 37 x.v y.v).run Tryz.prog W = .ok (decide (x = y)) W := by
 unfold Sd.v Sd.cells; rw [run_equalIn_struct W (d + 2) 37 _ _ (by kernel_rfl) (by kernel_rfl)]; obtain ⟨f, hf⟩ : ∃ f : Sd → Array Value, f = fun z => [Value.int .i64 z.kind, .int .i64 z.member, .int .i64 z.number, .int .i64 z.index, .bool z.is, .string (bs z.text), .string (bs z.token), .int .i64 z.e.kind, .int .i64 z.e.member, .int .i64 z.e.number, .string (bs z.e.text)].toArray := ⟨_, rfl⟩
 have hx : ∀ z, [Value.int .i64 z.kind, .int .i64 z.member, .int .i64 z.number, .int .i64 z.index, .bool z.is, .string (bs z.text), .string (bs z.token), .int .i64 z.e.kind, .int .i64 z.e.member, .int .i64 z.e.number, .string (bs z.e.text)].toArray = f z := fun z => by rw [hf]
 have p0 : ∀ z, (part 32 (f z) 0).run Tryz.prog W = .ok (.int .i64 z.kind) W := fun z => by rw [hf]; exact run_part_plain W (by kernel_rfl) rfl
 have p1 : ∀ z, (part 3 (f z) 1).run Tryz.prog W = .ok (.int .i64 z.member) W := fun z => by rw [hf]; exact run_part_plain W (by kernel_rfl) rfl
 have p2 : ∀ z, (part 2 (f z) 2).run Tryz.prog W = .ok (.int .i64 z.number) W := fun z => by rw [hf]; exact run_part_plain W (by kernel_rfl) rfl
 have p3 : ∀ z, (part 2 (f z) 3).run Tryz.prog W = .ok (.int .i64 z.index) W := fun z => by rw [hf]; exact run_part_plain W (by kernel_rfl) rfl
 have p4 : ∀ z, (part 4 (f z) 4).run Tryz.prog W = .ok (.bool z.is) W := fun z => by rw [hf]; exact run_part_plain W (by kernel_rfl) rfl
 have p5 : ∀ z, (part 9 (f z) 5).run Tryz.prog W = .ok (.string (bs z.text)) W := fun z => by rw [hf]; exact run_part_plain W (by kernel_rfl) rfl
 have p6 : ∀ z, (part 9 (f z) 6).run Tryz.prog W = .ok (.string (bs z.token)) W := fun z => by rw [hf]; exact run_part_plain W (by kernel_rfl) rfl
 have p7 : ∀ z, (part 35 (f z) 7).run Tryz.prog W = .ok z.e.v W := fun z => by rw [hf]; exact part_agg (n := 4) Tryz.underlying35 rfl (by kernel_rfl) W
 rw [hx x, hx y]; clear hf hx; have q0 := run_equalIn_int W (d + 1) 32 .i64 .i64 x.kind y.kind Tryz.underlying32; have q1 := run_equalIn_int W (d + 1) 3 .i64 .i64 x.member y.member Tryz.underlying3; have q2 := run_equalIn_int W (d + 1) 2 .i64 .i64 x.number y.number Tryz.underlying2; have q3 := run_equalIn_int W (d + 1) 2 .i64 .i64 x.index y.index Tryz.underlying2; have q4 := run_equalIn_bool W (d + 1) 4 x.is y.is Tryz.underlying4; have q5 := run_equalIn_string W (d + 1) 9 (bs x.text) (bs y.text) Tryz.underlying9; have q6 := run_equalIn_string W (d + 1) 9 (bs x.token) (bs y.token) Tryz.underlying9; have q7 := eqIn_en x.e y.e d W; rw [str_eq] at q5 q6; rw [int_eq] at q0 q1 q2 q3; rw [boo_eq] at q4
 have he : decide (x = y) = (decide (x.kind = y.kind) && (decide (x.member = y.member) && (decide (x.number = y.number) && (decide (x.index = y.index) && (decide (x.is = y.is) && (decide (x.text = y.text) && (decide (x.token = y.token) && decide (x.e = y.e)))))))) := by
  obtain ⟨a, b, c, e, a1, a2, a3, a4⟩ := x; obtain ⟨a', b', c', e', a1', a2', a3', a4'⟩ := y; rw [Bool.eq_iff_iff]; simp
 rw [he]; simp only [Program.fieldsOf, Tryz.underlying37, Op.eqFields]; obtain ⟨g0, hg0⟩ : ∃ g : Sd → Value, g = fun z => Value.int .i64 z.kind := ⟨_, rfl⟩
 have u0 : ∀ z : Sd, Value.int .i64 z.kind = g0 z := fun z => by rw [hg0]
 simp only [u0] at p0; rw [u0 x, u0 y] at q0; clear u0 hg0; obtain ⟨g1, hg1⟩ : ∃ g : Sd → Value, g = fun z => Value.int .i64 z.member := ⟨_, rfl⟩
 have u1 : ∀ z : Sd, Value.int .i64 z.member = g1 z := fun z => by rw [hg1]
 simp only [u1] at p1; rw [u1 x, u1 y] at q1; clear u1 hg1; obtain ⟨g2, hg2⟩ : ∃ g : Sd → Value, g = fun z => Value.int .i64 z.number := ⟨_, rfl⟩
 have u2 : ∀ z : Sd, Value.int .i64 z.number = g2 z := fun z => by rw [hg2]
 simp only [u2] at p2; rw [u2 x, u2 y] at q2; clear u2 hg2; obtain ⟨g3, hg3⟩ : ∃ g : Sd → Value, g = fun z => Value.int .i64 z.index := ⟨_, rfl⟩
 have u3 : ∀ z : Sd, Value.int .i64 z.index = g3 z := fun z => by rw [hg3]
 simp only [u3] at p3; rw [u3 x, u3 y] at q3; clear u3 hg3; obtain ⟨g4, hg4⟩ : ∃ g : Sd → Value, g = fun z => Value.bool z.is := ⟨_, rfl⟩
 have u4 : ∀ z : Sd, Value.bool z.is = g4 z := fun z => by rw [hg4]
 simp only [u4] at p4; rw [u4 x, u4 y] at q4; clear u4 hg4; obtain ⟨g5, hg5⟩ : ∃ g : Sd → Value, g = fun z => Value.string (bs z.text) := ⟨_, rfl⟩
 have u5 : ∀ z : Sd, Value.string (bs z.text) = g5 z := fun z => by rw [hg5]
 simp only [u5] at p5; rw [u5 x, u5 y] at q5; clear u5 hg5; obtain ⟨g6, hg6⟩ : ∃ g : Sd → Value, g = fun z => Value.string (bs z.token) := ⟨_, rfl⟩
 have u6 : ∀ z : Sd, Value.string (bs z.token) = g6 z := fun z => by rw [hg6]
 simp only [u6] at p6; rw [u6 x, u6 y] at q6; clear u6 hg6; obtain ⟨g7, hg7⟩ : ∃ g : Sd → Value, g = fun z => z.e.v := ⟨_, rfl⟩
 have u7 : ∀ z : Sd, z.e.v = g7 z := fun z => by rw [hg7]
 simp only [u7] at p7; rw [u7 x, u7 y] at q7; clear u7 hg7; obtain ⟨b0, hb0⟩ : ∃ b, decide (x.kind = y.kind) = b := ⟨_, rfl⟩; rw [hb0] at q0 ⊢; clear hb0; obtain ⟨b1, hb1⟩ : ∃ b, decide (x.member = y.member) = b := ⟨_, rfl⟩; rw [hb1] at q1 ⊢; clear hb1; obtain ⟨b2, hb2⟩ : ∃ b, decide (x.number = y.number) = b := ⟨_, rfl⟩; rw [hb2] at q2 ⊢; clear hb2; obtain ⟨b3, hb3⟩ : ∃ b, decide (x.index = y.index) = b := ⟨_, rfl⟩; rw [hb3] at q3 ⊢; clear hb3; obtain ⟨b4, hb4⟩ : ∃ b, decide (x.is = y.is) = b := ⟨_, rfl⟩; rw [hb4] at q4 ⊢; clear hb4; obtain ⟨b5, hb5⟩ : ∃ b, decide (x.text = y.text) = b := ⟨_, rfl⟩; rw [hb5] at q5 ⊢; clear hb5; obtain ⟨b6, hb6⟩ : ∃ b, decide (x.token = y.token) = b := ⟨_, rfl⟩; rw [hb6] at q6 ⊢; clear hb6; obtain ⟨b7, hb7⟩ : ∃ b, decide (x.e = y.e) = b := ⟨_, rfl⟩; rw [hb7] at q7 ⊢; clear hb7; cases b0
 case false => simp [p0, q0, Result.andThen]
 cases b1
 case false => simp [p0, q0, p1, q1, Result.andThen]
 cases b2
 case false => simp [p0, q0, p1, q1, p2, q2, Result.andThen]
 cases b3
 case false => simp [p0, q0, p1, q1, p2, q2, p3, q3, Result.andThen]
 cases b4
 case false => simp [p0, q0, p1, q1, p2, q2, p3, q3, p4, q4, Result.andThen]
 cases b5
 case false => simp [p0, q0, p1, q1, p2, q2, p3, q3, p4, q4, p5, q5, Result.andThen]
 cases b6
 case false => simp [p0, q0, p1, q1, p2, q2, p3, q3, p4, q4, p5, q5, p6, q6, Result.andThen]
 cases b7
 case false => simp [p0, q0, p1, q1, p2, q2, p3, q3, p4, q4, p5, q5, p6, q6, p7, q7, Result.andThen]
 simp [p0, q0, p1, q1, p2, q2, p3, q3, p4, q4, p5, q5, p6, q6, p7, q7, Result.andThen]
theorem eq_sd (x y : Sd) (W : World) : (binOp .eql 37 x.v y.v).run Tryz.prog W = .ok (.bool (decide (x = y))) W := eql_of (eqIn_sd x y 9997 W)
theorem ne_sd (x y : Sd) (W : World) : (binOp .neq 37 x.v y.v).run Tryz.prog W = .ok (.bool (!decide (x = y))) W := neq_of (eqIn_sd x y 9997 W)
def Part.keep (s : Sd) : Part → Sd → Sd
 | .member, x => { x with member := s.member }
 | .number _, x => { x with number := s.number }
 | .index, x => { x with index := s.index }
 | .is, x => { x with is := s.is }
 | .said, x => { x with text := s.text }
 | .token, x => { x with token := s.token }
 | .entry, x => { x with e := s.e }
def loneS (s : Sd) : Sd := ((partsOf s.kind).getD []).foldl (fun x p => p.keep s x) (Sd.of s.kind)
theorem lone_any (w : World) (s : Sd) (h : 1 ≤ s.kind ∧ s.kind ≤ 12) :
 Calls Tryz.prog 142 #[s.v] w fun e w' => e = .returned (loneS s).v ∧ Ext w w' := by
 obtain ⟨k, m, n, i, is, t, tok, en⟩ := s; dsimp only at h; obtain rfl | rfl | rfl | rfl | rfl | rfl | rfl | rfl | rfl | rfl | rfl | rfl : k = 1 ∨ k = 2 ∨ k = 3 ∨ k = 4 ∨ k = 5 ∨ k = 6 ∨ k = 7 ∨ k = 8 ∨ k = 9 ∨ k = 10 ∨ k = 11 ∨ k = 12 := by omega
 · have HR := Hd (show loneS ⟨1, m, n, i, is, t, tok, en⟩ = ⟨1, m, 0, 0, false, [], tok, En0⟩ from rfl)
   have HM := Hd (Mem.start0 w); clear h; obtain ⟨zv, hzv⟩ : ∃ v, (loneS ⟨1, m, n, i, is, t, tok, en⟩).v = v := ⟨_, rfl⟩; rw [hzv]; have HZ := Hd hzv; clear hzv; unfold Sd.v Sd.cells; dsimp only; go_enter Tryz.func142, Tryz.ntmps142
   have fM := HM.out.fa; go_wp2_with fail; all_goals clear fM
   refine nxt HM fun w1 M => ?_
   replace HM := M; clear M; obtain ⟨Ab, hb⟩ := HM.out.get (.there .here); refine bodyPost_ret (results_c Tryz.results142 _ rfl (run_loadVar_row w1 _ _ 37 _ (0, 0) _ hb.2 Tryz.underlying37 rfl (by kernel_rfl))) rfl ?_; exact ⟨by rw [← HZ.out, HR.out]; rfl, HM.out.extTo⟩
 · have HR := Hd (show loneS ⟨2, m, n, i, is, t, tok, en⟩ = ⟨2, 0, 0, 0, false, [], [], En0⟩ from rfl)
   have HM := Hd (Mem.start0 w); clear h; obtain ⟨zv, hzv⟩ : ∃ v, (loneS ⟨2, m, n, i, is, t, tok, en⟩).v = v := ⟨_, rfl⟩; rw [hzv]; have HZ := Hd hzv; clear hzv; unfold Sd.v Sd.cells; dsimp only; go_enter Tryz.func142, Tryz.ntmps142
   have fM := HM.out.fa; go_wp2_with fail; all_goals clear fM
   refine nxt HM fun w1 M => ?_
   replace HM := M; clear M; obtain ⟨Ab, hb⟩ := HM.out.get (.there .here); refine bodyPost_ret (results_c Tryz.results142 _ rfl (run_loadVar_row w1 _ _ 37 _ (0, 0) _ hb.2 Tryz.underlying37 rfl (by kernel_rfl))) rfl ?_; exact ⟨by rw [← HZ.out, HR.out]; rfl, HM.out.extTo⟩
 · have HR := Hd (show loneS ⟨3, m, n, i, is, t, tok, en⟩ = ⟨3, 0, 0, 0, false, [], [], En0⟩ from rfl)
   have HM := Hd (Mem.start0 w); clear h; obtain ⟨zv, hzv⟩ : ∃ v, (loneS ⟨3, m, n, i, is, t, tok, en⟩).v = v := ⟨_, rfl⟩; rw [hzv]; have HZ := Hd hzv; clear hzv; unfold Sd.v Sd.cells; dsimp only; go_enter Tryz.func142, Tryz.ntmps142
   have fM := HM.out.fa; go_wp2_with fail; all_goals clear fM
   refine nxt HM fun w1 M => ?_
   replace HM := M; clear M; obtain ⟨Ab, hb⟩ := HM.out.get (.there .here); refine bodyPost_ret (results_c Tryz.results142 _ rfl (run_loadVar_row w1 _ _ 37 _ (0, 0) _ hb.2 Tryz.underlying37 rfl (by kernel_rfl))) rfl ?_; exact ⟨by rw [← HZ.out, HR.out]; rfl, HM.out.extTo⟩
 · have HR := Hd (show loneS ⟨4, m, n, i, is, t, tok, en⟩ = ⟨4, 0, n, 0, false, t, [], En0⟩ from rfl)
   have HM := Hd (Mem.start0 w); clear h; obtain ⟨zv, hzv⟩ : ∃ v, (loneS ⟨4, m, n, i, is, t, tok, en⟩).v = v := ⟨_, rfl⟩; rw [hzv]; have HZ := Hd hzv; clear hzv; unfold Sd.v Sd.cells; dsimp only; go_enter Tryz.func142, Tryz.ntmps142
   have fM := HM.out.fa; go_wp2_with fail; all_goals clear fM
   refine nxt HM fun w1 M => ?_
   replace HM := M; clear M; obtain ⟨Ab, hb⟩ := HM.out.get (.there .here); refine bodyPost_ret (results_c Tryz.results142 _ rfl (run_loadVar_row w1 _ _ 37 _ (0, 0) _ hb.2 Tryz.underlying37 rfl (by kernel_rfl))) rfl ?_; exact ⟨by rw [← HZ.out, HR.out]; rfl, HM.out.extTo⟩
 · have HR := Hd (show loneS ⟨5, m, n, i, is, t, tok, en⟩ = ⟨5, 0, 0, i, false, [], [], En0⟩ from rfl)
   have HM := Hd (Mem.start0 w); clear h; obtain ⟨zv, hzv⟩ : ∃ v, (loneS ⟨5, m, n, i, is, t, tok, en⟩).v = v := ⟨_, rfl⟩; rw [hzv]; have HZ := Hd hzv; clear hzv; unfold Sd.v Sd.cells; dsimp only; go_enter Tryz.func142, Tryz.ntmps142
   have fM := HM.out.fa; go_wp2_with fail; all_goals clear fM
   refine nxt HM fun w1 M => ?_
   replace HM := M; clear M; obtain ⟨Ab, hb⟩ := HM.out.get (.there .here); refine bodyPost_ret (results_c Tryz.results142 _ rfl (run_loadVar_row w1 _ _ 37 _ (0, 0) _ hb.2 Tryz.underlying37 rfl (by kernel_rfl))) rfl ?_; exact ⟨by rw [← HZ.out, HR.out]; rfl, HM.out.extTo⟩
 · have HR := Hd (show loneS ⟨6, m, n, i, is, t, tok, en⟩ = ⟨6, 0, 0, 0, false, [], [], En0⟩ from rfl)
   have HM := Hd (Mem.start0 w); clear h; obtain ⟨zv, hzv⟩ : ∃ v, (loneS ⟨6, m, n, i, is, t, tok, en⟩).v = v := ⟨_, rfl⟩; rw [hzv]; have HZ := Hd hzv; clear hzv; unfold Sd.v Sd.cells; dsimp only; go_enter Tryz.func142, Tryz.ntmps142
   have fM := HM.out.fa; go_wp2_with fail; all_goals clear fM
   refine nxt HM fun w1 M => ?_
   replace HM := M; clear M; obtain ⟨Ab, hb⟩ := HM.out.get (.there .here); refine bodyPost_ret (results_c Tryz.results142 _ rfl (run_loadVar_row w1 _ _ 37 _ (0, 0) _ hb.2 Tryz.underlying37 rfl (by kernel_rfl))) rfl ?_; exact ⟨by rw [← HZ.out, HR.out]; rfl, HM.out.extTo⟩
 · have HR := Hd (show loneS ⟨7, m, n, i, is, t, tok, en⟩ = ⟨7, 0, 0, 0, is, [], [], En0⟩ from rfl)
   have HM := Hd (Mem.start0 w); clear h; obtain ⟨zv, hzv⟩ : ∃ v, (loneS ⟨7, m, n, i, is, t, tok, en⟩).v = v := ⟨_, rfl⟩; rw [hzv]; have HZ := Hd hzv; clear hzv; unfold Sd.v Sd.cells; dsimp only; go_enter Tryz.func142, Tryz.ntmps142
   have fM := HM.out.fa; go_wp2_with fail; all_goals clear fM
   refine nxt HM fun w1 M => ?_
   replace HM := M; clear M; obtain ⟨Ab, hb⟩ := HM.out.get (.there .here); refine bodyPost_ret (results_c Tryz.results142 _ rfl (run_loadVar_row w1 _ _ 37 _ (0, 0) _ hb.2 Tryz.underlying37 rfl (by kernel_rfl))) rfl ?_; exact ⟨by rw [← HZ.out, HR.out]; rfl, HM.out.extTo⟩
 · have HR := Hd (show loneS ⟨8, m, n, i, is, t, tok, en⟩ = ⟨8, 0, 0, i, false, [], tok, En0⟩ from rfl)
   have HM := Hd (Mem.start0 w); clear h; obtain ⟨zv, hzv⟩ : ∃ v, (loneS ⟨8, m, n, i, is, t, tok, en⟩).v = v := ⟨_, rfl⟩; rw [hzv]; have HZ := Hd hzv; clear hzv; unfold Sd.v Sd.cells; dsimp only; go_enter Tryz.func142, Tryz.ntmps142
   have fM := HM.out.fa; go_wp2_with fail; all_goals clear fM
   refine nxt HM fun w1 M => ?_
   replace HM := M; clear M; obtain ⟨Ab, hb⟩ := HM.out.get (.there .here); refine bodyPost_ret (results_c Tryz.results142 _ rfl (run_loadVar_row w1 _ _ 37 _ (0, 0) _ hb.2 Tryz.underlying37 rfl (by kernel_rfl))) rfl ?_; exact ⟨by rw [← HZ.out, HR.out]; rfl, HM.out.extTo⟩
 · have HR := Hd (show loneS ⟨9, m, n, i, is, t, tok, en⟩ = ⟨9, 0, 0, i, false, [], tok, en⟩ from rfl)
   have HM := Hd (Mem.start0 w); clear h; obtain ⟨zv, hzv⟩ : ∃ v, (loneS ⟨9, m, n, i, is, t, tok, en⟩).v = v := ⟨_, rfl⟩; rw [hzv]; have HZ := Hd hzv; clear hzv; unfold Sd.v Sd.cells; dsimp only; go_enter Tryz.func142, Tryz.ntmps142
   have fM := HM.out.fa; go_wp2_with fail; all_goals clear fM
   refine nxt HM fun w1 M => ?_
   replace HM := M; clear M; obtain ⟨Ab, hb⟩ := HM.out.get (.there .here); refine bodyPost_ret (results_c Tryz.results142 _ rfl (run_loadVar_row w1 _ _ 37 _ (0, 0) _ hb.2 Tryz.underlying37 rfl (by kernel_rfl))) rfl ?_; exact ⟨by rw [← HZ.out, HR.out]; rfl, HM.out.extTo⟩
 · have HR := Hd (show loneS ⟨10, m, n, i, is, t, tok, en⟩ = ⟨10, m, 0, 0, is, [], [], En0⟩ from rfl)
   have HM := Hd (Mem.start0 w); clear h; obtain ⟨zv, hzv⟩ : ∃ v, (loneS ⟨10, m, n, i, is, t, tok, en⟩).v = v := ⟨_, rfl⟩; rw [hzv]; have HZ := Hd hzv; clear hzv; unfold Sd.v Sd.cells; dsimp only; go_enter Tryz.func142, Tryz.ntmps142
   have fM := HM.out.fa; go_wp2_with fail; all_goals clear fM
   refine nxt HM fun w1 M => ?_
   replace HM := M; clear M; obtain ⟨Ab, hb⟩ := HM.out.get (.there .here); refine bodyPost_ret (results_c Tryz.results142 _ rfl (run_loadVar_row w1 _ _ 37 _ (0, 0) _ hb.2 Tryz.underlying37 rfl (by kernel_rfl))) rfl ?_; exact ⟨by rw [← HZ.out, HR.out]; rfl, HM.out.extTo⟩
 · have HR := Hd (show loneS ⟨11, m, n, i, is, t, tok, en⟩ = ⟨11, m, 0, 0, is, [], [], En0⟩ from rfl)
   have HM := Hd (Mem.start0 w); clear h; obtain ⟨zv, hzv⟩ : ∃ v, (loneS ⟨11, m, n, i, is, t, tok, en⟩).v = v := ⟨_, rfl⟩; rw [hzv]; have HZ := Hd hzv; clear hzv; unfold Sd.v Sd.cells; dsimp only; go_enter Tryz.func142, Tryz.ntmps142
   have fM := HM.out.fa; go_wp2_with fail; all_goals clear fM
   refine nxt HM fun w1 M => ?_
   replace HM := M; clear M; obtain ⟨Ab, hb⟩ := HM.out.get (.there .here); refine bodyPost_ret (results_c Tryz.results142 _ rfl (run_loadVar_row w1 _ _ 37 _ (0, 0) _ hb.2 Tryz.underlying37 rfl (by kernel_rfl))) rfl ?_; exact ⟨by rw [← HZ.out, HR.out]; rfl, HM.out.extTo⟩
 · have HR := Hd (show loneS ⟨12, m, n, i, is, t, tok, en⟩ = ⟨12, 0, n, 0, false, [], [], En0⟩ from rfl)
   have HM := Hd (Mem.start0 w); clear h; obtain ⟨zv, hzv⟩ : ∃ v, (loneS ⟨12, m, n, i, is, t, tok, en⟩).v = v := ⟨_, rfl⟩; rw [hzv]; have HZ := Hd hzv; clear hzv; unfold Sd.v Sd.cells; dsimp only; go_enter Tryz.func142, Tryz.ntmps142
   have fM := HM.out.fa; go_wp2_with fail; all_goals clear fM
   refine nxt HM fun w1 M => ?_
   replace HM := M; clear M; obtain ⟨Ab, hb⟩ := HM.out.get (.there .here); refine bodyPost_ret (results_c Tryz.results142 _ rfl (run_loadVar_row w1 _ _ 37 _ (0, 0) _ hb.2 Tryz.underlying37 rfl (by kernel_rfl))) rfl ?_; exact ⟨by rw [← HZ.out, HR.out]; rfl, HM.out.extTo⟩
end Go.Proofs.YtoadjbgpfihoiaaGreatDoor
