/- Texts DS, one behind the other. Conditions: as each says. -/
import Derived.Test.YtoadjbgpfihoiaaGreatDoorPlZO
set_option linter.unusedVariables false
set_option linter.unusedSimpArgs false
set_option maxHeartbeats 8000000
set_option maxRecDepth 100000
namespace Go.Proofs.YtoadjbgpfihoiaaGreatDoor
open Go.RowKit
section
abbrev docC (a : Option Addr) (c : Nat) (p : Option Addr) (q : Nat) (s : Ss) : List Value := [.int .i64 s.member, .int .i64 s.number, .int .i64 s.next, .int .i64 s.sent, .int .i64 s.acked, .int .i64 s.heard, .bool s.live, .bool s.closed, .int .i64 0, .int .i64 s.wait, .int .i64 (s.ring.most : Int), .slice a s.ring.items.length c, .int .i64 (s.ring.lost : Int), .slice p (s.bye.getD []).length q, .bool s.bye.isSome]
def DocAt (w : World) (F : Nat → Prop) (v : Value) (s : Ss) : Prop := ∃ a c p q, v = .agg (docC a c p q s).toArray ∧ SlV F (ItemAt w F) 3 (.slice a s.ring.items.length c) s.ring.items ∧ Bytes w F (.slice p (s.bye.getD []).length q) (s.bye.getD [])
section
variable {w w' : World} {S F G : Nat → Prop} {v : Value} {s : Ss}
theorem DocAt.keeps (h : DocAt w F v s) (hk : Keeps S w w') (hs : ∀ k, F k → ¬ S k) : DocAt w' F v s :=
 let ⟨a, c, p, q, h1, h2, h3⟩ := h
 ⟨a, c, p, q, h1, h2.itKeeps hk hs, h3.keeps hk hs⟩
theorem DocAt.ext (h : DocAt w F v s) (e : Ext w w') : DocAt w' F v s := h.keeps e fun _ _ => noB _
theorem DocAt.mono (h : DocAt w F v s) (hs : ∀ k, F k → G k) : DocAt w G v s :=
 let ⟨a, c, p, q, h1, h2, h3⟩ := h
 ⟨a, c, p, q, h1, h2.itMono hs, h3.mono hs⟩
end
def DocPost (w : World) (A : Nat → Prop) (s : Ss) (v' : Value) (w' : World) : Prop := DocAt w' (fun k => A k ∨ (w.heap.size ≤ k ∧ k < w'.heap.size)) v' s ∧ Ext w w'
theorem infoDS : (Tryz.prog.info? 73).map (·.size) = some 15 := by kernel_rfl
theorem infoSv : (Tryz.prog.info? 68).map (·.size) = some 9 := by kernel_rfl
instance wdN : Wd 0 [] := ⟨rfl, fun _ h => by cases h⟩
instance wdC (n : Nat) (a : Value) (l : List Value) [h : One a] [g : Wd n l] : Wd (n + 1) (a :: l) := ⟨by rw [List.length_cons, g.len], fun u hu => by
 rcases List.mem_cons.1 hu with rfl | hu
 · exact h.out
 · exact g.one u hu⟩
abbrev zDS : List Value := [.int .i64 0, .int .i64 0, .int .i64 0, .int .i64 0, .int .i64 0, .int .i64 0, .bool false, .bool false, .int .i64 0, .int .i64 0, .int .i64 0, .slice none 0 0, .int .i64 0, .slice none 0 0, .bool false]
theorem zeroDS (w : World) : (zeroValue 73).run Tryz.prog w = .ok (.agg zDS.toArray) w := by kernel_rfl
theorem Mem.newBytes {w w' : World} {L L' : List Res} {v : Value} {l : List UInt8} (h : Mem NoB w w' L) (p : Pick L (bytR v l) L') : Bytes w' (fun k => w.heap.size ≤ k ∧ k < w'.heap.size) v l := by
 obtain ⟨A, h1, h2, -⟩ := (h.pick p).stepIn; exact (bytR.bytes h1).mono fun k hk => ⟨(h2.2 k hk).resolve_left (noB _), Res.lt _ h1 k hk⟩
theorem dack_any {A : Nat → Prop} (w : World) (v : Value) (s : Ss) (i now : Int) (h : DocAt w A v s) :
 Calls Tryz.prog 33 #[v, .int .i64 i, .int .i64 now] w fun e w' => ∃ v', e = .returned (.tuple #[v', .int .i64 (s.ack i now).2]) ∧ DocPost w A (s.ack i now).1 v' w' := by
 obtain ⟨a, c, p, q, rfl, h1, h2⟩ := h; have HM := Hd (Mem.start0 w); have H1 := Hd h1; have H2 := Hd h2; clear h1 h2; unfold Ss.ack farN; by_cases e1 : s.acked ≤ i ∧ i ≤ s.sent
 case neg =>
  rw [if_pos (fun h => e1 h.1)]; have HE1 := Hd (decide_eq_false e1); clear e1; go_enter Tryz.func33, Tryz.ntmps33
  have fM := HM.out.fa; go_wp2_with ((first | ((with_reducible refine at_box 73 _ rfl ?_); refine boW 73 _ rfl rfl rfl HM.out ?_; intro w9 n9 M) | ((with_reducible refine at_alloc 73 rfl ?_); refine alW 73 rfl rfl (zeroDS _) HM.out ?_; intro w9 n9 M)); replace HM := Hd M; clear M fM; have fM := HM.out.fa); all_goals clear fM
  refine cret (within_any _ _ _ _) ?_; rw [HE1.out]; have fM := HM.out.fa; go_wp2_with (first | ((with_reducible refine at_load 73 _ rfl ?_); refine ldW 73 _ rfl rfl rfl HM.out Tryz.underlying73 rfl infoDS ?_) | (((with_reducible refine at_store 73 _ _ rfl ?_); refine stW 73 _ _ rfl rfl rfl rfl HM.out infoDS ?_; intro w9 M); replace HM := Hd M; clear M fM; have fM := HM.out.fa)); all_goals clear fM
  refine nxt HM fun w3 M => ?_
  replace HM := M; clear M; refine bodyPost_ret (results_ct rfl _ rfl (lvW 73 HM.out Tryz.underlying73 rfl infoDS)) rfl ?_; exact ⟨_, rfl, ⟨_, _, _, _, rfl, (H1.out.itExt HM.out.extTo).itMono (fun k h => .inl h), (H2.out.ext HM.out.extTo).mono (fun k h => .inl h)⟩, HM.out.extTo⟩
 have HE1 := Hd (decide_eq_true e1); by_cases e2 : s.heard ≤ now ∧ now ≤ 4611686018427387904
 case neg =>
  rw [if_pos (fun h => e2 h.2)]; have HE2 := Hd (decide_eq_false e2); clear e1 e2; go_enter Tryz.func33, Tryz.ntmps33
  have fM := HM.out.fa; go_wp2_with ((first | ((with_reducible refine at_box 73 _ rfl ?_); refine boW 73 _ rfl rfl rfl HM.out ?_; intro w9 n9 M) | ((with_reducible refine at_alloc 73 rfl ?_); refine alW 73 rfl rfl (zeroDS _) HM.out ?_; intro w9 n9 M)); replace HM := Hd M; clear M fM; have fM := HM.out.fa); all_goals clear fM
  refine cret (within_any _ _ _ _) ?_; rw [HE1.out]; have fM := HM.out.fa; go_wp2_with fail; all_goals clear fM
  refine cret (within_any _ _ _ _) ?_; rw [HE2.out]; have fM := HM.out.fa; go_wp2_with (first | ((with_reducible refine at_load 73 _ rfl ?_); refine ldW 73 _ rfl rfl rfl HM.out Tryz.underlying73 rfl infoDS ?_) | (((with_reducible refine at_store 73 _ _ rfl ?_); refine stW 73 _ _ rfl rfl rfl rfl HM.out infoDS ?_; intro w9 M); replace HM := Hd M; clear M fM; have fM := HM.out.fa)); all_goals clear fM
  refine nxt HM fun w3 M => ?_
  replace HM := M; clear M; refine bodyPost_ret (results_ct rfl _ rfl (lvW 73 HM.out Tryz.underlying73 rfl infoDS)) rfl ?_; exact ⟨_, rfl, ⟨_, _, _, _, rfl, (H1.out.itExt HM.out.extTo).itMono (fun k h => .inl h), (H2.out.ext HM.out.extTo).mono (fun k h => .inl h)⟩, HM.out.extTo⟩
 rw [if_neg (fun h => h ⟨e1, e2⟩)]; have HE2 := Hd (decide_eq_true e2); clear e1 e2; obtain ⟨sm, sn, snx, ss, sa, sh, sl, sc, sw, sr, sby⟩ := s; dsimp only at H1 H2 HE1 HE2 ⊢; cases sc
 · rw [if_neg Bool.false_ne_true]
   go_enter Tryz.func33, Tryz.ntmps33
   have fM := HM.out.fa; go_wp2_with ((first | ((with_reducible refine at_box 73 _ rfl ?_); refine boW 73 _ rfl rfl rfl HM.out ?_; intro w9 n9 M) | ((with_reducible refine at_alloc 73 rfl ?_); refine alW 73 rfl rfl (zeroDS _) HM.out ?_; intro w9 n9 M)); replace HM := Hd M; clear M fM; have fM := HM.out.fa); all_goals clear fM
   refine cret (within_any _ _ _ _) ?_; rw [HE1.out]; have fM := HM.out.fa; go_wp2_with fail; all_goals clear fM
   refine cret (within_any _ _ _ _) ?_; rw [HE2.out]; have fM := HM.out.fa; go_wp2_with (first | ((with_reducible refine at_load 73 _ rfl ?_); refine ldW 73 _ rfl rfl rfl HM.out Tryz.underlying73 rfl infoDS ?_) | (((with_reducible refine at_store 73 _ _ rfl ?_); refine stW 73 _ _ rfl rfl rfl rfl HM.out infoDS ?_; intro w9 M); replace HM := Hd M; clear M fM; have fM := HM.out.fa)); all_goals clear fM
   refine nxt HM fun w3 M => ?_
   replace HM := M; clear M; refine bodyPost_ret (results_ct rfl _ rfl (lvW 73 HM.out Tryz.underlying73 rfl infoDS)) rfl ?_; exact ⟨_, rfl, ⟨_, _, _, _, rfl, (H1.out.itExt HM.out.extTo).itMono (fun k h => .inl h), (H2.out.ext HM.out.extTo).mono (fun k h => .inl h)⟩, HM.out.extTo⟩
 · rw [if_pos rfl]
   go_enter Tryz.func33, Tryz.ntmps33
   have fM := HM.out.fa; go_wp2_with ((first | ((with_reducible refine at_box 73 _ rfl ?_); refine boW 73 _ rfl rfl rfl HM.out ?_; intro w9 n9 M) | ((with_reducible refine at_alloc 73 rfl ?_); refine alW 73 rfl rfl (zeroDS _) HM.out ?_; intro w9 n9 M)); replace HM := Hd M; clear M fM; have fM := HM.out.fa); all_goals clear fM
   refine cret (within_any _ _ _ _) ?_; rw [HE1.out]; have fM := HM.out.fa; go_wp2_with fail; all_goals clear fM
   refine cret (within_any _ _ _ _) ?_; rw [HE2.out]; have fM := HM.out.fa; go_wp2_with (first | ((with_reducible refine at_load 73 _ rfl ?_); refine ldW 73 _ rfl rfl rfl HM.out Tryz.underlying73 rfl infoDS ?_) | (((with_reducible refine at_store 73 _ _ rfl ?_); refine stW 73 _ _ rfl rfl rfl rfl HM.out infoDS ?_; intro w9 M); replace HM := Hd M; clear M fM; have fM := HM.out.fa)); all_goals clear fM
   refine nxt HM fun w3 M => ?_
   replace HM := M; clear M; refine bodyPost_ret (results_ct rfl _ rfl (lvW 73 HM.out Tryz.underlying73 rfl infoDS)) rfl ?_; exact ⟨_, rfl, ⟨_, _, _, _, rfl, (H1.out.itExt HM.out.extTo).itMono (fun k h => .inl h), (H2.out.ext HM.out.extTo).mono (fun k h => .inl h)⟩, HM.out.extTo⟩
theorem dhear_any {A : Nat → Prop} (w : World) (v : Value) (s : Ss) (now : Int) (h : DocAt w A v s) :
 Calls Tryz.prog 35 #[v, .int .i64 now] w fun e w' => ∃ v', e = .returned (.tuple #[v', .int .i64 (s.hear now).2]) ∧ DocPost w A (s.hear now).1 v' w' := by
 obtain ⟨a, c, p, q, rfl, h1, h2⟩ := h; have HM := Hd (Mem.start0 w); have H1 := Hd h1; have H2 := Hd h2; clear h1 h2; unfold Ss.hear; try unfold farN
 by_cases e1 : s.heard ≤ now ∧ now ≤ 4611686018427387904
 case neg =>
  rw [if_pos e1]; have HE1 := Hd (decide_eq_false e1); clear e1; go_enter Tryz.func35, Tryz.ntmps35
  have fM := HM.out.fa; go_wp2_with ((first | ((with_reducible refine at_box 73 _ rfl ?_); refine boW 73 _ rfl rfl rfl HM.out ?_; intro w9 n9 M) | ((with_reducible refine at_alloc 73 rfl ?_); refine alW 73 rfl rfl (zeroDS _) HM.out ?_; intro w9 n9 M)); replace HM := Hd M; clear M fM; have fM := HM.out.fa); all_goals clear fM
  refine cret (within_any _ _ _ _) ?_; rw [HE1.out]; have fM := HM.out.fa; go_wp2_with (first | ((with_reducible refine at_load 73 _ rfl ?_); refine ldW 73 _ rfl rfl rfl HM.out Tryz.underlying73 rfl infoDS ?_) | (((with_reducible refine at_store 73 _ _ rfl ?_); refine stW 73 _ _ rfl rfl rfl rfl HM.out infoDS ?_; intro w9 M); replace HM := Hd M; clear M fM; have fM := HM.out.fa)); all_goals clear fM
  refine nxt HM fun w3 M => ?_
  replace HM := M; clear M; refine bodyPost_ret (results_ct rfl _ rfl (lvW 73 HM.out Tryz.underlying73 rfl infoDS)) rfl ?_; exact ⟨_, rfl, ⟨_, _, _, _, rfl, (H1.out.itExt HM.out.extTo).itMono (fun k h => .inl h), (H2.out.ext HM.out.extTo).mono (fun k h => .inl h)⟩, HM.out.extTo⟩
 have HE1 := Hd (decide_eq_true e1); rw [if_neg (fun h => h e1)]; clear e1; obtain ⟨sm, sn, snx, ss, sa, sh, sl, sc, sw, sr, sby⟩ := s; dsimp only at H1 H2 HE1 ⊢; cases sc
 · rw [if_neg Bool.false_ne_true]
   go_enter Tryz.func35, Tryz.ntmps35
   have fM := HM.out.fa; go_wp2_with ((first | ((with_reducible refine at_box 73 _ rfl ?_); refine boW 73 _ rfl rfl rfl HM.out ?_; intro w9 n9 M) | ((with_reducible refine at_alloc 73 rfl ?_); refine alW 73 rfl rfl (zeroDS _) HM.out ?_; intro w9 n9 M)); replace HM := Hd M; clear M fM; have fM := HM.out.fa); all_goals clear fM
   refine cret (within_any _ _ _ _) ?_; rw [HE1.out]; have fM := HM.out.fa; go_wp2_with (first | ((with_reducible refine at_load 73 _ rfl ?_); refine ldW 73 _ rfl rfl rfl HM.out Tryz.underlying73 rfl infoDS ?_) | (((with_reducible refine at_store 73 _ _ rfl ?_); refine stW 73 _ _ rfl rfl rfl rfl HM.out infoDS ?_; intro w9 M); replace HM := Hd M; clear M fM; have fM := HM.out.fa)); all_goals clear fM
   refine nxt HM fun w3 M => ?_
   replace HM := M; clear M; refine bodyPost_ret (results_ct rfl _ rfl (lvW 73 HM.out Tryz.underlying73 rfl infoDS)) rfl ?_; exact ⟨_, rfl, ⟨_, _, _, _, rfl, (H1.out.itExt HM.out.extTo).itMono (fun k h => .inl h), (H2.out.ext HM.out.extTo).mono (fun k h => .inl h)⟩, HM.out.extTo⟩
 · rw [if_pos rfl]
   go_enter Tryz.func35, Tryz.ntmps35
   have fM := HM.out.fa; go_wp2_with ((first | ((with_reducible refine at_box 73 _ rfl ?_); refine boW 73 _ rfl rfl rfl HM.out ?_; intro w9 n9 M) | ((with_reducible refine at_alloc 73 rfl ?_); refine alW 73 rfl rfl (zeroDS _) HM.out ?_; intro w9 n9 M)); replace HM := Hd M; clear M fM; have fM := HM.out.fa); all_goals clear fM
   refine cret (within_any _ _ _ _) ?_; rw [HE1.out]; have fM := HM.out.fa; go_wp2_with (first | ((with_reducible refine at_load 73 _ rfl ?_); refine ldW 73 _ rfl rfl rfl HM.out Tryz.underlying73 rfl infoDS ?_) | (((with_reducible refine at_store 73 _ _ rfl ?_); refine stW 73 _ _ rfl rfl rfl rfl HM.out infoDS ?_; intro w9 M); replace HM := Hd M; clear M fM; have fM := HM.out.fa)); all_goals clear fM
   refine nxt HM fun w3 M => ?_
   replace HM := M; clear M; refine bodyPost_ret (results_ct rfl _ rfl (lvW 73 HM.out Tryz.underlying73 rfl infoDS)) rfl ?_; exact ⟨_, rfl, ⟨_, _, _, _, rfl, (H1.out.itExt HM.out.extTo).itMono (fun k h => .inl h), (H2.out.ext HM.out.extTo).mono (fun k h => .inl h)⟩, HM.out.extTo⟩
theorem dreach_any {A : Nat → Prop} (w : World) (v : Value) (s : Ss) (now : Int) (h : DocAt w A v s) :
 Calls Tryz.prog 31 #[v, .int .i64 now] w fun e w' => ∃ v', e = .returned (.tuple #[v', .int .i64 (s.reach now).2]) ∧ DocPost w A (s.reach now).1 v' w' := by
 obtain ⟨a, c, p, q, rfl, h1, h2⟩ := h; have HM := Hd (Mem.start0 w); have H1 := Hd h1; have H2 := Hd h2; clear h1 h2; unfold Ss.reach; try unfold farN
 by_cases e1 : s.next ≤ now ∧ now ≤ 2147483647
 case neg =>
  rw [if_pos e1]; have HE1 := Hd (decide_eq_false e1); clear e1; go_enter Tryz.func31, Tryz.ntmps31
  have fM := HM.out.fa; go_wp2_with ((first | ((with_reducible refine at_box 73 _ rfl ?_); refine boW 73 _ rfl rfl rfl HM.out ?_; intro w9 n9 M) | ((with_reducible refine at_alloc 73 rfl ?_); refine alW 73 rfl rfl (zeroDS _) HM.out ?_; intro w9 n9 M)); replace HM := Hd M; clear M fM; have fM := HM.out.fa); all_goals clear fM
  refine cret (within_any _ _ _ _) ?_; rw [HE1.out]; have fM := HM.out.fa; go_wp2_with (first | ((with_reducible refine at_load 73 _ rfl ?_); refine ldW 73 _ rfl rfl rfl HM.out Tryz.underlying73 rfl infoDS ?_) | (((with_reducible refine at_store 73 _ _ rfl ?_); refine stW 73 _ _ rfl rfl rfl rfl HM.out infoDS ?_; intro w9 M); replace HM := Hd M; clear M fM; have fM := HM.out.fa)); all_goals clear fM
  refine nxt HM fun w3 M => ?_
  replace HM := M; clear M; refine bodyPost_ret (results_ct rfl _ rfl (lvW 73 HM.out Tryz.underlying73 rfl infoDS)) rfl ?_; exact ⟨_, rfl, ⟨_, _, _, _, rfl, (H1.out.itExt HM.out.extTo).itMono (fun k h => .inl h), (H2.out.ext HM.out.extTo).mono (fun k h => .inl h)⟩, HM.out.extTo⟩
 have HE1 := Hd (decide_eq_true e1); rw [if_neg (fun h => h e1)]; clear e1; obtain ⟨sm, sn, snx, ss, sa, sh, sl, sc, sw, sr, sby⟩ := s; dsimp only at H1 H2 HE1 ⊢; cases sc
 · rw [if_neg Bool.false_ne_true]
   go_enter Tryz.func31, Tryz.ntmps31
   have fM := HM.out.fa; go_wp2_with ((first | ((with_reducible refine at_box 73 _ rfl ?_); refine boW 73 _ rfl rfl rfl HM.out ?_; intro w9 n9 M) | ((with_reducible refine at_alloc 73 rfl ?_); refine alW 73 rfl rfl (zeroDS _) HM.out ?_; intro w9 n9 M)); replace HM := Hd M; clear M fM; have fM := HM.out.fa); all_goals clear fM
   refine cret (within_any _ _ _ _) ?_; rw [HE1.out]; have fM := HM.out.fa; go_wp2_with (first | ((with_reducible refine at_load 73 _ rfl ?_); refine ldW 73 _ rfl rfl rfl HM.out Tryz.underlying73 rfl infoDS ?_) | (((with_reducible refine at_store 73 _ _ rfl ?_); refine stW 73 _ _ rfl rfl rfl rfl HM.out infoDS ?_; intro w9 M); replace HM := Hd M; clear M fM; have fM := HM.out.fa)); all_goals clear fM
   refine nxt HM fun w3 M => ?_
   replace HM := M; clear M; refine bodyPost_ret (results_ct rfl _ rfl (lvW 73 HM.out Tryz.underlying73 rfl infoDS)) rfl ?_; exact ⟨_, rfl, ⟨_, _, _, _, rfl, (H1.out.itExt HM.out.extTo).itMono (fun k h => .inl h), (H2.out.ext HM.out.extTo).mono (fun k h => .inl h)⟩, HM.out.extTo⟩
 · rw [if_pos rfl]
   go_enter Tryz.func31, Tryz.ntmps31
   have fM := HM.out.fa; go_wp2_with ((first | ((with_reducible refine at_box 73 _ rfl ?_); refine boW 73 _ rfl rfl rfl HM.out ?_; intro w9 n9 M) | ((with_reducible refine at_alloc 73 rfl ?_); refine alW 73 rfl rfl (zeroDS _) HM.out ?_; intro w9 n9 M)); replace HM := Hd M; clear M fM; have fM := HM.out.fa); all_goals clear fM
   refine cret (within_any _ _ _ _) ?_; rw [HE1.out]; have fM := HM.out.fa; go_wp2_with (first | ((with_reducible refine at_load 73 _ rfl ?_); refine ldW 73 _ rfl rfl rfl HM.out Tryz.underlying73 rfl infoDS ?_) | (((with_reducible refine at_store 73 _ _ rfl ?_); refine stW 73 _ _ rfl rfl rfl rfl HM.out infoDS ?_; intro w9 M); replace HM := Hd M; clear M fM; have fM := HM.out.fa)); all_goals clear fM
   refine nxt HM fun w3 M => ?_
   replace HM := M; clear M; refine bodyPost_ret (results_ct rfl _ rfl (lvW 73 HM.out Tryz.underlying73 rfl infoDS)) rfl ?_; exact ⟨_, rfl, ⟨_, _, _, _, rfl, (H1.out.itExt HM.out.extTo).itMono (fun k h => .inl h), (H2.out.ext HM.out.extTo).mono (fun k h => .inl h)⟩, HM.out.extTo⟩
theorem dsilent_any {A : Nat → Prop} (w : World) (v : Value) (s : Ss) (now : Int) (h : DocAt w A v s) (hh : 0 ≤ s.heard) (hn : I64 now) :
 Calls Tryz.prog 28 #[v, .int .i64 now] w fun e w' => e = .returned (.bool (s.silent now)) ∧ Ext w w' := by
 obtain ⟨a, c, p, q, rfl, h1, h2⟩ := h; have HM := Hd (Mem.start0 w); have H1 := Hd h1; have H2 := Hd h2; clear h1 h2; have HI := Hd hn; clear hn; unfold Ss.silent; obtain ⟨sm, sn, snx, ss, sa, sh, sl, sc, sw, sr, sby⟩ := s; dsimp only at H1 H2 hh ⊢; cases sc with
 | true =>
   go_enter Tryz.func28, Tryz.ntmps28
   have fM := HM.out.fa; go_wp2_with (((with_reducible refine at_box 73 _ rfl ?_); refine boW 73 _ rfl rfl rfl HM.out ?_; intro w9 n9 M); replace HM := Hd M; clear M fM; have fM := HM.out.fa); all_goals clear fM
   go_ret; exact ⟨rfl, HM.out.extTo⟩
 | false =>
   by_cases h1 : sh ≤ now
   · have d1 := decide_eq_true h1
     have hw64 : wrap64 (now - sh) = now - sh := IntWalk.wrap64_in _ (by have := HI.out; unfold I64 at this; omega); go_enter Tryz.func28, Tryz.ntmps28
     have fM := HM.out.fa; go_wp2_with (((with_reducible refine at_box 73 _ rfl ?_); refine boW 73 _ rfl rfl rfl HM.out ?_; intro w9 n9 M); replace HM := Hd M; clear M fM; have fM := HM.out.fa); all_goals clear fM
     go_ret; exact ⟨by simp [d1], HM.out.extTo⟩
   · have d1 := decide_eq_false h1
     go_enter Tryz.func28, Tryz.ntmps28
     have fM := HM.out.fa; go_wp2_with (((with_reducible refine at_box 73 _ rfl ?_); refine boW 73 _ rfl rfl rfl HM.out ?_; intro w9 n9 M); replace HM := Hd M; clear M fM; have fM := HM.out.fa); all_goals clear fM
     go_ret; exact ⟨by simp [d1], HM.out.extTo⟩
theorem dstate_any {A : Nat → Prop} (w : World) (v : Value) (s : Ss) (h : DocAt w A v s) (hl : s.ring.items.length ≤ 1000) :
 Calls Tryz.prog 40 #[v] w fun e w' => e = .returned (.agg s.state.toArray) ∧ Ext w w' := by
 obtain ⟨a, c, p, q, rfl, h1, h2⟩ := h; have HM := Hd (Mem.start0 w); have H1 := Hd h1; have H2 := Hd h2; clear h1 h2; obtain ⟨sm, sn, snx, ss, sa, sh, sl, sc, sw, sr, sby⟩ := s; dsimp only at H1 H2 hl ⊢; cases sby with
 | none =>
   have HQ := Hd (show Ss.queued ⟨sm, sn, snx, ss, sa, sh, sl, sc, sw, sr, none⟩ = (sr.items.length : Int) from rfl); go_enter Tryz.func40, Tryz.ntmps40
   have fM := HM.out.fa; go_wp2_with (((with_reducible refine at_box 73 _ rfl ?_); refine boW 73 _ rfl rfl rfl HM.out ?_; intro w9 n9 M); replace HM := Hd M; clear M fM; have fM := HM.out.fa); all_goals clear fM
   refine nxt HM fun w4 M => ?_
   replace HM := M; clear M; refine bodyPost_ret (results_c rfl _ rfl (lvW 68 HM.out Tryz.underlying68 rfl infoSv)) rfl ?_; exact ⟨rfl, HM.out.extTo⟩
 | some l =>
   have HQ := Hd (show Ss.queued ⟨sm, sn, snx, ss, sa, sh, sl, sc, sw, sr, some l⟩ = 1 from rfl); go_enter Tryz.func40, Tryz.ntmps40
   have fM := HM.out.fa; go_wp2_with (((with_reducible refine at_box 73 _ rfl ?_); refine boW 73 _ rfl rfl rfl HM.out ?_; intro w9 n9 M); replace HM := Hd M; clear M fM; have fM := HM.out.fa); all_goals clear fM
   refine nxt HM fun w4 M => ?_
   replace HM := M; clear M; refine bodyPost_ret (results_c rfl _ rfl (lvW 68 HM.out Tryz.underlying68 rfl infoSv)) rfl ?_; exact ⟨rfl, HM.out.extTo⟩
theorem dclose_any {A : Nat → Prop} (w : World) (v : Value) (s : Ss) (why : Int) (h : DocAt w A v s) :
 Calls Tryz.prog 37 #[v, .int .i64 why] w fun e w' => ∃ v', e = .returned (.tuple #[v', .int .i64 (s.close why).2]) ∧ DocPost w A (s.close why).1 v' w' := by
 obtain ⟨a, c, p, q, rfl, h1, h2⟩ := h; have HM := Hd (Mem.start0 w); have H1 := Hd h1; have H2 := Hd h2; clear h1 h2; unfold Ss.close; by_cases e1 : 0 ≤ why ∧ why ≤ 2147483647
 case neg =>
  rw [if_pos e1]; have HE1 := Hd (decide_eq_false e1); clear e1; go_enter Tryz.func37, Tryz.ntmps37
  have fM := HM.out.fa; go_wp2_with ((first | ((with_reducible refine at_box 73 _ rfl ?_); refine boW 73 _ rfl rfl rfl HM.out ?_; intro w9 n9 M) | ((with_reducible refine at_alloc 73 rfl ?_); refine alW 73 rfl rfl (zeroDS _) HM.out ?_; intro w9 n9 M)); replace HM := Hd M; clear M fM; have fM := HM.out.fa); all_goals clear fM
  refine cret (within_any _ _ _ _) ?_; rw [HE1.out]; have fM := HM.out.fa; go_wp2_with (first | ((with_reducible refine at_load 73 _ rfl ?_); refine ldW 73 _ rfl rfl rfl HM.out Tryz.underlying73 rfl infoDS ?_) | (((with_reducible refine at_store 73 _ _ rfl ?_); refine stW 73 _ _ rfl rfl rfl rfl HM.out infoDS ?_; intro w9 M); replace HM := Hd M; clear M fM; have fM := HM.out.fa)); all_goals clear fM
  refine nxt HM fun w3 M => ?_
  replace HM := M; clear M; refine bodyPost_ret (results_ct rfl _ rfl (lvW 73 HM.out Tryz.underlying73 rfl infoDS)) rfl ?_; exact ⟨_, rfl, ⟨_, _, _, _, rfl, (H1.out.itExt HM.out.extTo).itMono (fun k h => .inl h), (H2.out.ext HM.out.extTo).mono (fun k h => .inl h)⟩, HM.out.extTo⟩
 have HE1 := Hd (decide_eq_true e1); have HSD := Hd (sd_bye why e1); rw [if_neg (fun h => h e1)]; clear e1; obtain ⟨sm, sn, snx, ss, sa, sh, sl, sc, sw, sr, sby⟩ := s; dsimp only at H1 H2 HE1 ⊢; cases sc
 · rw [if_neg Bool.false_ne_true]
   go_enter Tryz.func37, Tryz.ntmps37
   have fM := HM.out.fa; go_wp2_with ((first | ((with_reducible refine at_box 73 _ rfl ?_); refine boW 73 _ rfl rfl rfl HM.out ?_; intro w9 n9 M) | ((with_reducible refine at_alloc 73 rfl ?_); refine alW 73 rfl rfl (zeroDS _) HM.out ?_; intro w9 n9 M)); replace HM := Hd M; clear M fM; have fM := HM.out.fa); all_goals clear fM
   refine cret (within_any _ _ _ _) ?_; rw [HE1.out]; have fM := HM.out.fa; go_wp2_with fail; all_goals clear fM
   refine nxt HM fun w4 M => ?_
   replace HM := M; clear M; refine (docRaw_any _ (byeS why) HSD.out ⟨by simp [byeS, Sd.of], by simp [byeS, Sd.of, En0], by simp [byeS, Sd.of]⟩).mono ?_; rintro e w5 ⟨v5, rfl, hU⟩; replace HM := Hd (HM.out.newU hU); obtain ⟨a5, c5, rfl⟩ := HM.out.fact fun A h => bytR.len h
   clear hU; have fM := HM.out.fa; go_wp2_with (first | ((with_reducible refine at_load 73 _ rfl ?_); refine ldW 73 _ rfl rfl rfl HM.out Tryz.underlying73 rfl infoDS ?_) | (((with_reducible refine at_store 73 _ _ rfl ?_); refine stW 73 _ _ rfl rfl rfl rfl HM.out infoDS ?_; intro w9 M); replace HM := Hd M; clear M fM; have fM := HM.out.fa)); all_goals clear fM
   refine nxt HM fun w3 M => ?_
   replace HM := M; clear M; refine bodyPost_ret (results_ct rfl _ rfl (lvW 73 HM.out Tryz.underlying73 rfl infoDS)) rfl ?_; exact ⟨_, rfl, ⟨_, _, _, _, rfl, (.inl ⟨none, rfl, rfl⟩), (HM.out.newBytes (v := .slice a5 (frameL (bodyL (byeS why))).length c5) (l := frameL (bodyL (byeS why))) pk).mono fun k h => .inr h⟩, HM.out.extTo⟩
 · rw [if_pos rfl]
   go_enter Tryz.func37, Tryz.ntmps37
   have fM := HM.out.fa; go_wp2_with ((first | ((with_reducible refine at_box 73 _ rfl ?_); refine boW 73 _ rfl rfl rfl HM.out ?_; intro w9 n9 M) | ((with_reducible refine at_alloc 73 rfl ?_); refine alW 73 rfl rfl (zeroDS _) HM.out ?_; intro w9 n9 M)); replace HM := Hd M; clear M fM; have fM := HM.out.fa); all_goals clear fM
   refine cret (within_any _ _ _ _) ?_; rw [HE1.out]; have fM := HM.out.fa; go_wp2_with (first | ((with_reducible refine at_load 73 _ rfl ?_); refine ldW 73 _ rfl rfl rfl HM.out Tryz.underlying73 rfl infoDS ?_) | (((with_reducible refine at_store 73 _ _ rfl ?_); refine stW 73 _ _ rfl rfl rfl rfl HM.out infoDS ?_; intro w9 M); replace HM := Hd M; clear M fM; have fM := HM.out.fa)); all_goals clear fM
   refine nxt HM fun w3 M => ?_
   replace HM := M; clear M; refine bodyPost_ret (results_ct rfl _ rfl (lvW 73 HM.out Tryz.underlying73 rfl infoDS)) rfl ?_; exact ⟨_, rfl, ⟨_, _, _, _, rfl, (H1.out.itExt HM.out.extTo).itMono (fun k h => .inl h), (H2.out.ext HM.out.extTo).mono (fun k h => .inl h)⟩, HM.out.extTo⟩
end
end Go.Proofs.YtoadjbgpfihoiaaGreatDoor
