/- Texts SA, SB, one behind the other. Conditions: as each says. -/
import Derived.Test.YtoadjbgpfihoiaaGreatDoorPlZK
set_option linter.unusedVariables false
set_option linter.unusedSimpArgs false
set_option maxHeartbeats 8000000
set_option maxRecDepth 100000
namespace Go.Proofs.YtoadjbgpfihoiaaGreatDoor
open Go.RowKit
section
def qSA0 : List (Nat × Nat) := [(3, 0), (3, 1), (0, 2), (0, 3), (0, 4), (3, 5), (3, 6), (0, 7), (0, 8), (0, 9), (3, 10), (2, 11), (0, 12), (1, 13), (1, 14), (0, 15), (0, 16), (0, 17), (1, 18)]
def byeR (v : Value) (o : Option (List UInt8)) : Res := anyR (fun F w => (o = none ∧ v = .slice none 0 0 ∧ ∀ k, ¬ F k) ∨ ∃ l, o = some l ∧ l ≠ [] ∧ (bytR v l).p F w)
 (fun h hk hs => h.imp id fun ⟨l, h1, h2, h3⟩ => ⟨l, h1, h2, Res.keeps _ h3 hk hs⟩) (fun h k hF => by
  rcases h with ⟨-, -, h⟩ | ⟨l, -, -, h⟩
  · exact (h k hF).elim
  · exact Res.lt _ h k hF)
theorem Mem.byeNil {F : Nat → Prop} {w0 w : World} {L : List Res} (h : Mem F w0 w L) : Mem F w0 w (byeR (.slice none 0 0) none :: L) :=
 h.new (r := byeR (.slice none 0 0) none) (G := fun _ => False) (Keeps.refl _ _) (.inl ⟨rfl, rfl, fun _ h => h⟩) (fun k h => h.elim)
theorem Mem.byeSome {F : Nat → Prop} {w0 w : World} {L : List Res} {v : Value} {l : List UInt8} (h : Mem F w0 w (bytR v l :: L)) (hl : l ≠ []) : Mem F w0 w (byeR v (some l) :: L) := h.turn fun A hA => .inr ⟨l, rfl, hl, hA⟩
theorem byeR.byt {A : Nat → Prop} {w : World} {v : Value} {l : List UInt8} (h : (byeR v (some l)).p A w) : l ≠ [] ∧ (bytR v l).p A w := by
 rcases h with ⟨h, -⟩ | ⟨m, h1, h2, h3⟩
 · cases h
 · cases h1; exact ⟨h2, h3⟩
theorem byeR.nil {A : Nat → Prop} {w : World} {v : Value} (h : (byeR v none).p A w) : v = .slice none 0 0 := by
 rcases h with ⟨-, h, -⟩ | ⟨m, h1, h2, h3⟩
 · exact h
 · cases h1
abbrev sesC (rb : Nat) (bv : Value) (s : Ss) : List Value := [.pointer (some ⟨rb, 0, none⟩), .int .i64 s.member, .int .i64 s.number, .int .i64 s.next, .int .i64 s.sent, .int .i64 s.acked, .int .i64 s.heard, .bool s.live, .bool s.closed, .int .i64 0, .int .i64 (s.ring.most : Int), .int .i64 s.wait, bv]
abbrev sesL (sb rb : Nat) (bv : Value) (s : Ss) : List Res := [cellsR sb 99 (sesC rb bv s), ringR rb s.ring, byeR bv s.bye]
def sesR (sb : Nat) (s : Ss) : Res := someR fun p : Nat × Value => listR (sesL sb p.1 p.2 s)
section
variable {F : Nat → Prop} {w0 w : World} {L : List Res} {sb rb : Nat} {bv : Value} {s : Ss}
theorem Mem.sesOpen (h : Mem F w0 w (sesR sb s :: L)) : ∃ rb bv, Mem F w0 w (cellsR sb 99 (sesC rb bv s) :: ringR rb s.ring :: byeR bv s.bye :: L) := by
 obtain ⟨p, hm⟩ := Mem.openE (M := fun p : Nat × Value => sesL sb p.1 p.2 s) h fun A ⟨p, hp⟩ => ⟨p, A, hp, fun _ h => h⟩
 exact ⟨p.1, p.2, hm⟩
theorem Mem.sesClose (h : Mem F w0 w (cellsR sb 99 (sesC rb bv s) :: ringR rb s.ring :: byeR bv s.bye :: L)) : Mem F w0 w (sesR sb s :: L) :=
 (Mem.list' (L1 := sesL sb rb bv s) h).turn fun A hA => ⟨(rb, bv), hA⟩
theorem snone_ses (hb : Box w sb 99 (sesC rb bv s)) : Calls Tryz.prog 84 #[.pointer (some ⟨sb, 0, none⟩)] w fun e w' => e = .returned (.bool false) ∧ w' = w :=
 snone_no w sb _ (hb.reads.1 0)
end
theorem sreach1 (w : World) (sb k2 k3 rb : Nat) (bv : Value) (s : Ss) (many : Int) (BS : Box w sb 99 (sesC rb bv s)) (B2 : Box w k2 64 [.pointer (some ⟨sb, 0, none⟩)]) (B3 : Box w k3 2 [.int .i64 many]) :
 Calls Tryz.prog 95 #[.pointer (some ⟨k3, 0, none⟩), .pointer (some ⟨k2, 0, none⟩)] w fun e w' => e = .returned (.bool (decide (s.next ≤ many ∧ many ≤ 2147483647))) ∧ Ext w w' := by
 have HM := Hd (Mem.start0 w); replace BS := Hd BS; replace B2 := Hd B2; replace B3 := Hd B3; obtain ⟨cBS, zBS⟩ := BS.out.reads; have lBS := BS.out.lt; obtain ⟨cB2, zB2⟩ := B2.out.reads; have lB2 := B2.out.lt; obtain ⟨cB3, zB3⟩ := B3.out.reads; have lB3 := B3.out.lt; go_enter Tryz.func95, Tryz.ntmps95
 go_wp2_with fail; have hE0 : Keeps NoB w w.drew := (Keeps.refl _ _).drew; refine rgE [(3, 0), (3, 1), (0, 2), (0, 3), (0, 4), (3, 5)] [] [6, 7] [6, 7] ?_; simp only [planL, nL]; iterate 6 (first | (refine pR (by rfl) (fun W => by go_simp <;> with_reducible rfl) ?_; simp only [nP]) | (refine pX (by rfl) (by go_simp <;> with_reducible rfl) ?_; simp only [nP]))
 refine plan_nil ?_; simp only [tailL, List.filterMap_cons, List.filterMap_nil, nL]; change wpList _ _ _ (_ :: _ :: []) _ _; go_wp2_with fail; refine (sin_i64 _ _ _ _).mono ?_; rintro e w7 ⟨rfl, rfl⟩; have hE2 := hE0; go_wp2_with fail; go_ret; exact ⟨by rw [Bool.decide_and]; rfl, Ext.drew0 w⟩
theorem sack1 (w : World) (sb k2 k3 k4 rb : Nat) (bv : Value) (s : Ss) (i now : Int) (BS : Box w sb 99 (sesC rb bv s)) (B2 : Box w k2 64 [.pointer (some ⟨sb, 0, none⟩)]) (B3 : Box w k3 2 [.int .i64 i]) (B4 : Box w k4 2 [.int .i64 now]) :
 Calls Tryz.prog 97 #[.pointer (some ⟨k3, 0, none⟩), .pointer (some ⟨k2, 0, none⟩), .pointer (some ⟨k4, 0, none⟩)] w fun e w' => e = .returned (.bool (decide ((s.acked ≤ i ∧ i ≤ s.sent) ∧ s.heard ≤ now ∧ now ≤ farN))) ∧ Ext w w' := by
 have HM := Hd (Mem.start0 w); replace BS := Hd BS; replace B2 := Hd B2; replace B3 := Hd B3; replace B4 := Hd B4; obtain ⟨cBS, zBS⟩ := BS.out.reads; have lBS := BS.out.lt; obtain ⟨cB2, zB2⟩ := B2.out.reads; have lB2 := B2.out.lt; obtain ⟨cB3, zB3⟩ := B3.out.reads; have lB3 := B3.out.lt; obtain ⟨cB4, zB4⟩ := B4.out.reads; have lB4 := B4.out.lt; by_cases hd : s.acked ≤ i ∧ i ≤ s.sent
 · have hd1 := decide_eq_true hd
   go_enter Tryz.func97, Tryz.ntmps97
   go_wp2_with fail; have hE0 : Keeps NoB w w.drew := (Keeps.refl _ _).drew; refine rgE qSA0 [13, 14, 18] [11, 19, 20, 21] [19, 20, 21] ?_ (hp := (plan3 [0, 0, 2, 6, 14, 30, 0, 64, 192, 448, 960, 2047, 4095, 8191, 8191, 24575, 57343, 122879, 253951, 524287, 1048575, 2097151] (by kernel_rfl) rfl (by kernel_rfl))); simp only [qSA0, planL, nL]; iterate 11 (first | (refine pR (by rfl) (fun W => by go_simp <;> with_reducible rfl) ?_; simp only [nP]) | (refine pX (by rfl) (by go_simp <;> with_reducible rfl) ?_; simp only [nP]))
   refine plan_does rfl (fun K hK => ?_); go_wp2_with fail; refine (sin_i64 _ _ _ _).mono ?_; rintro e w7 ⟨rfl, rfl⟩; rw [hd1]; have hE2 := hE0; refine hK _ _ ⟨ClsE.of (by assumption), ?_⟩; clear hK K; try simp only [nP]
   refine pM _ rfl rfl ?_; simp only [nP, nE]; iterate 2 ((refine pL rfl (fun W => by go_simp <;> with_reducible rfl) ?_; simp only [nP]))
   iterate 3 ((refine pR rfl (fun W => by go_simp <;> with_reducible rfl) ?_; simp only [nP]))
   refine pL rfl (fun W => by go_simp <;> with_reducible rfl) ?_; simp only [nP]; refine plan_nil ?_; simp only [tailL, List.filterMap_cons, List.filterMap_nil, nL]; change wpList _ _ _ (_ :: _ :: _ :: []) _ _; go_wp2_with fail; refine (sin_i64 _ _ _ _).mono ?_; rintro e w7 ⟨rfl, rfl⟩; have hE3 := hE0; go_wp2_with fail; go_ret; exact ⟨by simp [hd, farN], Ext.drew0 w⟩
 · have hd1 := decide_eq_false hd
   go_enter Tryz.func97, Tryz.ntmps97
   go_wp2_with fail; have hE0 : Keeps NoB w w.drew := (Keeps.refl _ _).drew; refine rgE qSA0 [13, 14, 18] [11, 19, 20, 21] [19, 20, 21] ?_ (hp := (plan3 [0, 0, 2, 6, 14, 30, 0, 64, 192, 448, 960, 2047, 4095, 8191, 8191, 24575, 57343, 122879, 253951, 524287, 1048575, 2097151] (by kernel_rfl) rfl (by kernel_rfl))); simp only [qSA0, planL, nL]; iterate 11 (first | (refine pR (by rfl) (fun W => by go_simp <;> with_reducible rfl) ?_; simp only [nP]) | (refine pX (by rfl) (by go_simp <;> with_reducible rfl) ?_; simp only [nP]))
   refine plan_does rfl (fun K hK => ?_); go_wp2_with fail; refine (sin_i64 _ _ _ _).mono ?_; rintro e w7 ⟨rfl, rfl⟩; rw [hd1]; have hE2 := hE0; refine hK _ _ ⟨ClsE.of (by assumption), ?_⟩; clear hK K; try simp only [nP]
   refine pM _ rfl rfl ?_; simp only [nP, nE]; iterate 2 ((refine plan_skip rfl ?_; simp only [nP]))
   iterate 3 ((refine plan_skip rfl ?_; simp only [nP]))
   refine plan_skip rfl ?_; simp only [nP]; refine plan_nil ?_; simp only [tailL, List.filterMap_cons, List.filterMap_nil, nL]; change wpList _ _ _ (_ :: _ :: _ :: []) _ _; go_wp2_with fail; go_ret; exact ⟨by simp [hd], Ext.drew0 w⟩
theorem shear1 (w : World) (sb k2 k3 rb : Nat) (bv : Value) (s : Ss) (now : Int) (BS : Box w sb 99 (sesC rb bv s)) (B2 : Box w k2 64 [.pointer (some ⟨sb, 0, none⟩)]) (B3 : Box w k3 2 [.int .i64 now]) :
 Calls Tryz.prog 99 #[.pointer (some ⟨k3, 0, none⟩), .pointer (some ⟨k2, 0, none⟩)] w fun e w' => e = .returned (.bool (decide (s.heard ≤ now ∧ now ≤ farN))) ∧ Ext w w' := by
 have HM := Hd (Mem.start0 w); replace BS := Hd BS; replace B2 := Hd B2; replace B3 := Hd B3; obtain ⟨cBS, zBS⟩ := BS.out.reads; have lBS := BS.out.lt; obtain ⟨cB2, zB2⟩ := B2.out.reads; have lB2 := B2.out.lt; obtain ⟨cB3, zB3⟩ := B3.out.reads; have lB3 := B3.out.lt; go_enter Tryz.func99, Tryz.ntmps99
 go_wp2_with fail; have hE0 : Keeps NoB w w.drew := (Keeps.refl _ _).drew; refine rgE [(3, 0), (3, 1), (0, 2), (0, 3), (0, 4), (3, 5)] [] [6, 7] [6, 7] ?_; simp only [planL, nL]; iterate 6 (first | (refine pR (by rfl) (fun W => by go_simp <;> with_reducible rfl) ?_; simp only [nP]) | (refine pX (by rfl) (by go_simp <;> with_reducible rfl) ?_; simp only [nP]))
 refine plan_nil ?_; simp only [tailL, List.filterMap_cons, List.filterMap_nil, nL]; change wpList _ _ _ (_ :: _ :: []) _ _; go_wp2_with fail; refine (sin_i64 _ _ _ _).mono ?_; rintro e w7 ⟨rfl, rfl⟩; have hE2 := hE0; go_wp2_with fail; go_ret; exact ⟨by rw [Bool.decide_and]; rfl, Ext.drew0 w⟩
abbrev sesM (sb rb : Nat) (bv : Value) (s : Ss) (L : List Res) : List Res := cellsR sb 99 (sesC rb bv s) :: ringR rb s.ring :: byeR bv s.bye :: L
theorem sreach2 {F : Nat → Prop} {w0 : World} (w : World) (sb k2 k3 rb : Nat) (bv : Value) (s : Ss) (many : Int)
 (h : Mem F w0 w [cellsR k3 2 [.int .i64 many], cellsR k2 64 [.pointer (some ⟨sb, 0, none⟩)], cellsR sb 99 (sesC rb bv s), ringR rb s.ring, byeR bv s.bye]) :
 Calls Tryz.prog 96 #[.pointer (some ⟨k3, 0, none⟩), .pointer (some ⟨k2, 0, none⟩)] w fun e w' => e = .returned (.tuple #[]) ∧ Upd F w0 w' (sesR sb { s with live := many == s.next }) := by
 have HM := Hd h; clear h; go_enter Tryz.func96, Tryz.ntmps96
 have fM := HM.out.fa; have hE0 : Keeps NoB w w.drew := (Keeps.refl _ _).drew; refine rgE [(3, 0), (3, 1), (3, 2), (0, 3), (0, 4), (0, 5), (3, 6), (0, 7), (0, 8), (0, 9), (0, 10)] [] [11] [11] ?_; simp only [planL, nL]; iterate 11 (first | (refine pR (by rfl) (fun W => by go_simp <;> with_reducible rfl) ?_; simp only [nP]) | (refine pX (by rfl) (by go_simp <;> with_reducible rfl) ?_; simp only [nP]))
 refine plan_nil ?_; simp only [tailL, List.filterMap_cons, List.filterMap_nil, nL]; change wpList _ _ _ (_ :: []) _ _; go_wp2_with fail; clear fM; refine nxt HM fun w2 M => ?_
 replace HM := M; clear M; go_end0
 exact ⟨rfl, (Mem.sesClose (rb := rb) (bv := bv) (s := { s with live := many == s.next }) (L := []) (Mem.sub HM.out (by repeat first | exact Sub.nil | refine Sub.cons (by with_reducible repeat first | exact ph | apply pt) ?_))).upd⟩
theorem shear2 {F : Nat → Prop} {w0 : World} (w : World) (sb k2 k3 rb : Nat) (bv : Value) (s : Ss) (now : Int)
 (h : Mem F w0 w [cellsR k3 2 [.int .i64 now], cellsR k2 64 [.pointer (some ⟨sb, 0, none⟩)], cellsR sb 99 (sesC rb bv s), ringR rb s.ring, byeR bv s.bye]) :
 Calls Tryz.prog 100 #[.pointer (some ⟨k3, 0, none⟩), .pointer (some ⟨k2, 0, none⟩)] w fun e w' => e = .returned (.tuple #[]) ∧ Upd F w0 w' (sesR sb { s with heard := now }) := by
 have HM := Hd h; clear h; go_enter Tryz.func100, Tryz.ntmps100
 have fM := HM.out.fa; go_wp2_with fail; all_goals clear fM
 refine nxt HM fun w2 M => ?_
 replace HM := M; clear M; go_end0
 exact ⟨rfl, (Mem.sesClose (rb := rb) (bv := bv) (s := { s with heard := now }) (L := []) (Mem.sub HM.out (by repeat first | exact Sub.nil | refine Sub.cons (by with_reducible repeat first | exact ph | apply pt) ?_))).upd⟩
theorem sack2 {F : Nat → Prop} {w0 : World} (w : World) (sb k2 k3 k4 rb : Nat) (bv : Value) (s : Ss) (i now : Int)
 (h : Mem F w0 w [cellsR k4 2 [.int .i64 now], cellsR k3 2 [.int .i64 i], cellsR k2 64 [.pointer (some ⟨sb, 0, none⟩)], cellsR sb 99 (sesC rb bv s), ringR rb s.ring, byeR bv s.bye]) :
 Calls Tryz.prog 98 #[.pointer (some ⟨k3, 0, none⟩), .pointer (some ⟨k4, 0, none⟩), .pointer (some ⟨k2, 0, none⟩)] w fun e w' => e = .returned (.tuple #[]) ∧ Upd F w0 w' (sesR sb { s with acked := i, heard := now }) := by
 have HM := Hd h; clear h; go_enter Tryz.func98, Tryz.ntmps98
 have fM := HM.out.fa; have hE0 : Keeps (fun k => k = sb) w w.drew := (Keeps.refl _ _).drew; refine rgK (fun k => k = sb) [(3, 0), (1, 1), (3, 2), (1, 3), (0, 4), (0, 5), (0, 6), (2, 7), (0, 8), (0, 9), (0, 10)] [1, 3] [7, 11] [11] ?_; simp only [planL, nL]; iterate 7 (first | (refine pR (by rfl) (fun W => by go_simp <;> with_reducible rfl) ?_; simp only [nP]) | (refine pX (by rfl) (by go_simp <;> with_reducible rfl) ?_; simp only [nP]) | (refine pK (by rfl) (fun W => by go_simp <;> with_reducible rfl) ?_; simp only [nP]))
 refine plan_does rfl (fun K hK => ?_); go_wp2_with fail; refine ⟨ClsK.of (by repeat (first | assumption | exact Keeps.refl _ _ | refine Keeps.alloc ?_ _ | refine Keeps.setOne ?_ _ _ | refine Keeps.setCell ?_ _ _ (.inl (by first | rfl | exact .inl rfl | exact .inr rfl | omega)) | refine Keeps.drew ?_)), ?_⟩; try simp only [nP]
 iterate 3 (refine pR rfl (fun W => by go_simp <;> with_reducible rfl) ?_; simp only [nP])
 refine plan_nil ?_; simp only [tailL, List.filterMap_cons, List.filterMap_nil, nL]; change wpList _ _ _ (_ :: []) _ _; go_wp2_with fail; clear fM; refine nxt HM fun w2 M => ?_
 replace HM := M; clear M; go_end0
 exact ⟨rfl, (Mem.sesClose (rb := rb) (bv := bv) (s := { s with acked := i, heard := now }) (L := []) (Mem.sub HM.out (by repeat first | exact Sub.nil | refine Sub.cons (by with_reducible repeat first | exact ph | apply pt) ?_))).upd⟩
theorem Mem.sesUpd {F : Nat → Prop} {w0 w : World} {sb rb : Nat} {bv : Value} {s : Ss} (h : Mem F w0 w [cellsR sb 99 (sesC rb bv s), ringR rb s.ring, byeR bv s.bye]) : Upd F w0 w (sesR sb s) := (Mem.sesClose (L := []) h).upd
theorem reach_does (s : Ss) (many : Int) : (s.reach many).2 = doesI false (decide (s.next ≤ many ∧ many ≤ 2147483647)) s.closed [] ∧ (doesB false (decide (s.next ≤ many ∧ many ≤ 2147483647)) s.closed [] = true → (s.reach many).1 = { s with live := many == s.next }) ∧ (doesB false (decide (s.next ≤ many ∧ many ≤ 2147483647)) s.closed [] = false → (s.reach many).1 = s) := by
 unfold Ss.reach doesI doesB; by_cases h : s.next ≤ many ∧ many ≤ 2147483647
 · rw [if_neg (fun h' => h' h), decide_eq_true h]
   cases s.closed <;> simp [firstF, noneF] <;> rfl
 · rw [if_pos h, decide_eq_false h]
   simp
theorem hear_does (s : Ss) (now : Int) : (s.hear now).2 = doesI false (decide (s.heard ≤ now ∧ now ≤ farN)) s.closed [] ∧ (doesB false (decide (s.heard ≤ now ∧ now ≤ farN)) s.closed [] = true → (s.hear now).1 = { s with heard := now }) ∧ (doesB false (decide (s.heard ≤ now ∧ now ≤ farN)) s.closed [] = false → (s.hear now).1 = s) := by
 unfold Ss.hear doesI doesB; by_cases h : s.heard ≤ now ∧ now ≤ farN
 · rw [if_neg (fun h' => h' h), decide_eq_true h]
   cases s.closed <;> simp [firstF, noneF]
 · rw [if_pos h, decide_eq_false h]
   simp
theorem ack_does (s : Ss) (i now : Int) : (s.ack i now).2 = doesI false (decide ((s.acked ≤ i ∧ i ≤ s.sent) ∧ s.heard ≤ now ∧ now ≤ farN)) s.closed [] ∧ (doesB false (decide ((s.acked ≤ i ∧ i ≤ s.sent) ∧ s.heard ≤ now ∧ now ≤ farN)) s.closed [] = true → (s.ack i now).1 = { s with acked := i, heard := now }) ∧ (doesB false (decide ((s.acked ≤ i ∧ i ≤ s.sent) ∧ s.heard ≤ now ∧ now ≤ farN)) s.closed [] = false → (s.ack i now).1 = s) := by
 unfold Ss.ack doesI doesB; by_cases h : (s.acked ≤ i ∧ i ≤ s.sent) ∧ s.heard ≤ now ∧ now ≤ farN
 · rw [if_neg (fun h' => h' h), decide_eq_true h]
   cases s.closed <;> simp [firstF, noneF]
 · rw [if_pos h, decide_eq_false h]
   simp
theorem reach_any {A : Nat → Prop} (w : World) (sb : Nat) (s : Ss) (many : Int) (h : (sesR sb s).p A w) :
 Calls Tryz.prog 32 #[.pointer (some ⟨sb, 0, none⟩), .int .i64 many] w fun e w' => e = .returned (.int .i64 (s.reach many).2) ∧ Upd A w w' (sesR sb (s.reach many).1) := by
 obtain ⟨rb, bv, hm⟩ := (Mem.start h).sesOpen; have HM := Hd hm; clear hm h; go_enter Tryz.func32, Tryz.ntmps32
 have fM := HM.out.fa; go_wp2_with fail; all_goals clear fM
 obtain ⟨k2, hk2⟩ : ∃ k, w.heap.size = k := ⟨_, rfl⟩; obtain ⟨k3, hk3⟩ : ∃ k, w.heap.size + 1 = k := ⟨_, rfl⟩; refine nxt HM fun w1 M => ?_
 replace HM := M; clear M; rw [hk3, hk2] at HM ⊢; clear hk2 hk3; obtain ⟨_, hb2⟩ := HM.out.get (r := cellsR k2 64 [.pointer (some ⟨sb, 0, none⟩)]) pk; obtain ⟨_, hb3⟩ := HM.out.get (r := cellsR k3 2 [.int .i64 many]) pk; obtain ⟨_, hbs⟩ := HM.out.get (r := cellsR sb 99 (sesC rb bv s)) pk; have m1 : TellsF w1 ⟨95, #[], #[.pointer (some ⟨k3, 0, none⟩), .pointer (some ⟨k2, 0, none⟩)], 0⟩ (decide (s.next ≤ many ∧ many ≤ 2147483647)) := ⟨enters_of Tryz.func95 (by kernel_rfl) rfl, fun w2 h2 => sreach1 w2 sb k2 k3 rb bv s many (hbs.2.ext h2) (hb2.2.ext h2) (hb3.2.ext h2)⟩; have m2 := fun (hb : doesB false (decide (s.next ≤ many ∧ many ≤ 2147483647)) s.closed [] = true) w2 (h2 : Ext w1 w2) => sreach2 w2 sb k2 k3 rb bv s many (HM.out.ext h2)
 obtain ⟨p1, p2, p3⟩ := reach_does s many; have hd := does_any (Q := fun w' => Upd A w w' (sesR sb ({ s with live := many == s.next }))) w1 (some ⟨sb, 0, none⟩) false (decide (s.next ≤ many ∧ many ≤ 2147483647)) s.closed 95 96 #[] #[.pointer (some ⟨k3, 0, none⟩), .pointer (some ⟨k2, 0, none⟩)] #[] #[.pointer (some ⟨k3, 0, none⟩), .pointer (some ⟨k2, 0, none⟩)] (.slice none 0 0) [] (by simp) (fun w2 h2 => snone_ses (hbs.2.ext h2)) (fun _ => m1) (fun _ => ⟨sb, rfl, hbs.2.reads.1 8⟩) (.inl ⟨rfl, rfl⟩) (enters_of Tryz.func96 (by kernel_rfl) rfl) (fun hb => m2 hb); clear m1 m2; refine hd.mono ?_; clear hd; rintro e w2 ⟨rfl, h1, h2⟩
 have key : Upd A w w2 (sesR sb (s.reach many).1) := by
  cases hb : doesB false (decide (s.next ≤ many ∧ many ≤ 2147483647)) s.closed [] with
  | true => rw [p2 hb]; exact h1 hb
  | false => rw [p3 hb]; exact Mem.sesUpd (Mem.sub (HM.out.ext (h2 hb)) (by repeat first | exact Sub.nil | refine Sub.cons (by with_reducible repeat first | exact ph | apply pt) ?_))
 have HK := Hd key; rw [← p1]; clear h1 h2 p1 p2 p3 key hbs; clear hb2 hb3; go_wp2_with fail; go_ret; exact ⟨rfl, HK.out⟩
theorem hear_any {A : Nat → Prop} (w : World) (sb : Nat) (s : Ss) (now : Int) (h : (sesR sb s).p A w) :
 Calls Tryz.prog 36 #[.pointer (some ⟨sb, 0, none⟩), .int .i64 now] w fun e w' => e = .returned (.int .i64 (s.hear now).2) ∧ Upd A w w' (sesR sb (s.hear now).1) := by
 obtain ⟨rb, bv, hm⟩ := (Mem.start h).sesOpen; have HM := Hd hm; clear hm h; go_enter Tryz.func36, Tryz.ntmps36
 have fM := HM.out.fa; go_wp2_with fail; all_goals clear fM
 obtain ⟨k2, hk2⟩ : ∃ k, w.heap.size = k := ⟨_, rfl⟩; obtain ⟨k3, hk3⟩ : ∃ k, w.heap.size + 1 = k := ⟨_, rfl⟩; refine nxt HM fun w1 M => ?_
 replace HM := M; clear M; rw [hk3, hk2] at HM ⊢; clear hk2 hk3; obtain ⟨_, hb2⟩ := HM.out.get (r := cellsR k2 64 [.pointer (some ⟨sb, 0, none⟩)]) pk; obtain ⟨_, hb3⟩ := HM.out.get (r := cellsR k3 2 [.int .i64 now]) pk; obtain ⟨_, hbs⟩ := HM.out.get (r := cellsR sb 99 (sesC rb bv s)) pk; have m1 : TellsF w1 ⟨99, #[], #[.pointer (some ⟨k3, 0, none⟩), .pointer (some ⟨k2, 0, none⟩)], 0⟩ (decide (s.heard ≤ now ∧ now ≤ farN)) := ⟨enters_of Tryz.func99 (by kernel_rfl) rfl, fun w2 h2 => shear1 w2 sb k2 k3 rb bv s now (hbs.2.ext h2) (hb2.2.ext h2) (hb3.2.ext h2)⟩; have m2 := fun (hb : doesB false (decide (s.heard ≤ now ∧ now ≤ farN)) s.closed [] = true) w2 (h2 : Ext w1 w2) => shear2 w2 sb k2 k3 rb bv s now (HM.out.ext h2)
 obtain ⟨p1, p2, p3⟩ := hear_does s now; have hd := does_any (Q := fun w' => Upd A w w' (sesR sb ({ s with heard := now }))) w1 (some ⟨sb, 0, none⟩) false (decide (s.heard ≤ now ∧ now ≤ farN)) s.closed 99 100 #[] #[.pointer (some ⟨k3, 0, none⟩), .pointer (some ⟨k2, 0, none⟩)] #[] #[.pointer (some ⟨k3, 0, none⟩), .pointer (some ⟨k2, 0, none⟩)] (.slice none 0 0) [] (by simp) (fun w2 h2 => snone_ses (hbs.2.ext h2)) (fun _ => m1) (fun _ => ⟨sb, rfl, hbs.2.reads.1 8⟩) (.inl ⟨rfl, rfl⟩) (enters_of Tryz.func100 (by kernel_rfl) rfl) (fun hb => m2 hb); clear m1 m2; refine hd.mono ?_; clear hd; rintro e w2 ⟨rfl, h1, h2⟩
 have key : Upd A w w2 (sesR sb (s.hear now).1) := by
  cases hb : doesB false (decide (s.heard ≤ now ∧ now ≤ farN)) s.closed [] with
  | true => rw [p2 hb]; exact h1 hb
  | false => rw [p3 hb]; exact Mem.sesUpd (Mem.sub (HM.out.ext (h2 hb)) (by repeat first | exact Sub.nil | refine Sub.cons (by with_reducible repeat first | exact ph | apply pt) ?_))
 have HK := Hd key; rw [← p1]; clear h1 h2 p1 p2 p3 key hbs; clear hb2 hb3; go_wp2_with fail; go_ret; exact ⟨rfl, HK.out⟩
theorem ack_any {A : Nat → Prop} (w : World) (sb : Nat) (s : Ss) (i now : Int) (h : (sesR sb s).p A w) :
 Calls Tryz.prog 34 #[.pointer (some ⟨sb, 0, none⟩), .int .i64 i, .int .i64 now] w fun e w' => e = .returned (.int .i64 (s.ack i now).2) ∧ Upd A w w' (sesR sb (s.ack i now).1) := by
 obtain ⟨rb, bv, hm⟩ := (Mem.start h).sesOpen; have HM := Hd hm; clear hm h; go_enter Tryz.func34, Tryz.ntmps34
 have fM := HM.out.fa; go_wp2_with fail; all_goals clear fM
 obtain ⟨k2, hk2⟩ : ∃ k, w.heap.size = k := ⟨_, rfl⟩; obtain ⟨k3, hk3⟩ : ∃ k, w.heap.size + 1 = k := ⟨_, rfl⟩; obtain ⟨k4, hk4⟩ : ∃ k, w.heap.size + 1 + 1 = k := ⟨_, rfl⟩; refine nxt HM fun w1 M => ?_
 replace HM := M; clear M; rw [hk4] at HM ⊢; rw [hk3] at HM ⊢; rw [hk2] at HM ⊢; clear hk2 hk3 hk4; obtain ⟨_, hb2⟩ := HM.out.get (r := cellsR k2 64 [.pointer (some ⟨sb, 0, none⟩)]) pk; obtain ⟨_, hb3⟩ := HM.out.get (r := cellsR k3 2 [.int .i64 i]) pk; obtain ⟨_, hb4⟩ := HM.out.get (r := cellsR k4 2 [.int .i64 now]) pk; obtain ⟨_, hbs⟩ := HM.out.get (r := cellsR sb 99 (sesC rb bv s)) pk; have m1 : TellsF w1 ⟨97, #[], #[.pointer (some ⟨k3, 0, none⟩), .pointer (some ⟨k2, 0, none⟩), .pointer (some ⟨k4, 0, none⟩)], 0⟩ (decide ((s.acked ≤ i ∧ i ≤ s.sent) ∧ s.heard ≤ now ∧ now ≤ farN)) := ⟨enters_of Tryz.func97 (by kernel_rfl) rfl, fun w2 h2 => sack1 w2 sb k2 k3 k4 rb bv s i now (hbs.2.ext h2) (hb2.2.ext h2) (hb3.2.ext h2) (hb4.2.ext h2)⟩; have m2 := fun (hb : doesB false (decide ((s.acked ≤ i ∧ i ≤ s.sent) ∧ s.heard ≤ now ∧ now ≤ farN)) s.closed [] = true) w2 (h2 : Ext w1 w2) => sack2 w2 sb k2 k3 k4 rb bv s i now (HM.out.ext h2)
 obtain ⟨p1, p2, p3⟩ := ack_does s i now; have hd := does_any (Q := fun w' => Upd A w w' (sesR sb ({ s with acked := i, heard := now }))) w1 (some ⟨sb, 0, none⟩) false (decide ((s.acked ≤ i ∧ i ≤ s.sent) ∧ s.heard ≤ now ∧ now ≤ farN)) s.closed 97 98 #[] #[.pointer (some ⟨k3, 0, none⟩), .pointer (some ⟨k2, 0, none⟩), .pointer (some ⟨k4, 0, none⟩)] #[] #[.pointer (some ⟨k3, 0, none⟩), .pointer (some ⟨k4, 0, none⟩), .pointer (some ⟨k2, 0, none⟩)] (.slice none 0 0) [] (by simp) (fun w2 h2 => snone_ses (hbs.2.ext h2)) (fun _ => m1) (fun _ => ⟨sb, rfl, hbs.2.reads.1 8⟩) (.inl ⟨rfl, rfl⟩) (enters_of Tryz.func98 (by kernel_rfl) rfl) (fun hb => m2 hb); clear m1 m2; refine hd.mono ?_; clear hd; rintro e w2 ⟨rfl, h1, h2⟩
 have key : Upd A w w2 (sesR sb (s.ack i now).1) := by
  cases hb : doesB false (decide ((s.acked ≤ i ∧ i ≤ s.sent) ∧ s.heard ≤ now ∧ now ≤ farN)) s.closed [] with
  | true => rw [p2 hb]; exact h1 hb
  | false => rw [p3 hb]; exact Mem.sesUpd (Mem.sub (HM.out.ext (h2 hb)) (by repeat first | exact Sub.nil | refine Sub.cons (by with_reducible repeat first | exact ph | apply pt) ?_))
 have HK := Hd key; rw [← p1]; clear h1 h2 p1 p2 p3 key hbs; clear hb2 hb3 hb4; go_wp2_with fail; go_ret; exact ⟨rfl, HK.out⟩
end
theorem sclose1 (w : World) (k3 : Nat) (why : Int) (B3 : Box w k3 2 [.int .i64 why]) :
 Calls Tryz.prog 101 #[.pointer (some ⟨k3, 0, none⟩)] w fun e w' => e = .returned (.bool (decide (0 ≤ why ∧ why ≤ 2147483647))) ∧ Ext w w' := by
 replace B3 := Hd B3; obtain ⟨cB3, zB3⟩ := B3.out.reads; have lB3 := B3.out.lt; go_enter Tryz.func101, Tryz.ntmps101
 go_wp2_with fail; refine (sin_i64 _ _ _ _).mono ?_; rintro e w7 ⟨rfl, rfl⟩; go_wp2_with fail; go_ret; exact ⟨by rw [Bool.decide_and]; rfl, Keeps.refl _ _⟩
theorem okS_bye (n : Int) : OkS (byeS n) := ⟨by show I64 0; unfold I64; decide, by show ([] : List UInt8).length ≤ _; simp, by show ([] : List UInt8).length ≤ _; simp, by show ([] : List UInt8).length ≤ _; simp⟩
theorem tabs_mem {F : Nat → Prop} {w0 w : World} {L : List Res} (hX : TabX F w0) (h : Mem F w0 w L) : Tabs w := hX.1.keeps h.keepsTo hX.2.1 hX.2.2
theorem sclose2 {F : Nat → Prop} {w0 : World} (w : World) (hX : TabX F w0) (sb k2 k3 rb : Nat) (bv : Value) (s : Ss) (why : Int) (hw : 0 ≤ why ∧ why ≤ 2147483647)
 (h : Mem F w0 w [cellsR k3 2 [.int .i64 why], cellsR k2 64 [.pointer (some ⟨sb, 0, none⟩)], cellsR sb 99 (sesC rb bv s), ringR rb s.ring, byeR bv s.bye]) :
 Calls Tryz.prog 102 #[.pointer (some ⟨k2, 0, none⟩), .pointer (some ⟨k3, 0, none⟩)] w fun e w' => e = .returned (.tuple #[]) ∧ Upd F w0 w' (sesR sb { s with closed := true, live := false, ring := { s.ring with items := [] }, bye := some (rawS (byeS why)) }) := by
 have HM := Hd h; have HX := Hd hX; have HSD := Hd (sd_bye why hw); clear h hX; go_enter Tryz.func102, Tryz.ntmps102
 have fM := HM.out.fa; go_wp2_with fail; have hE0 : Keeps (fun k => k = sb) w w.drew := (Keeps.refl _ _).drew; refine rgK (fun k => k = sb) [(3, 0), (1, 1), (0, 2), (0, 3), (0, 4), (2, 5), (0, 6), (0, 7), (0, 8)] [1] [5, 9] [9] ?_; simp only [planL, nL]; refine pX rfl (by go_simp <;> with_reducible rfl) ?_; simp only [nP]; refine pK rfl (fun W => by go_simp <;> with_reducible rfl) ?_; simp only [nP]; iterate 3 (refine pR rfl (fun W => by go_simp <;> with_reducible rfl) ?_; simp only [nP])
 refine plan_does rfl (fun K hK => ?_); go_wp2_with fail; refine ⟨ClsK.of (by repeat (first | assumption | exact Keeps.refl _ _ | refine Keeps.alloc ?_ _ | refine Keeps.setOne ?_ _ _ | refine Keeps.setCell ?_ _ _ (.inl (by first | rfl | exact .inl rfl | exact .inr rfl | omega)) | refine Keeps.drew ?_)), ?_⟩; try simp only [nP]
 iterate 3 (refine pR rfl (fun W => by go_simp <;> with_reducible rfl) ?_; simp only [nP])
 refine plan_nil ?_; simp only [tailL, List.filterMap_cons, List.filterMap_nil, nL]; change wpList _ _ _ (_ :: []) _ _; go_wp2_with fail; clear fM; refine nxt HM fun w1 M => ?_
 replace HM := M; clear M; obtain ⟨C, hC, hS⟩ := (HM.out.pick (r := ringR rb s.ring) pk).step; refine (clear_r w1 rb s.ring.most s.ring.lost s.ring.items hC).mono ?_; rintro e w2 ⟨rfl, hU⟩; replace HM := Hd (hS _ _ hU); clear hC hS hU; clear C; have fM := HM.out.fa; go_wp2_with fail; all_goals clear fM
 have fM := HM.out.fa; have hE0 : Keeps (fun k => k = sb) w2 w2.drew := (Keeps.refl _ _).drew; refine rgK (fun k => k = sb) [(1, 0), (3, 1), (0, 2), (2, 3), (0, 4), (0, 5), (0, 6), (0, 7), (0, 8)] [0] [3, 9] [9] ?_; simp only [planL, nL]; refine pK rfl (fun W => by go_simp <;> with_reducible rfl) ?_; simp only [nP]; refine pX rfl (by go_simp <;> with_reducible rfl) ?_; simp only [nP]; refine pR rfl (fun W => by go_simp <;> with_reducible rfl) ?_; simp only [nP]; refine plan_does rfl (fun K hK => ?_); go_wp2_with fail; refine (raw_ok w2.drew w2.drew (tabs_mem HX.out HM.out.drew) (Keeps.refl _ _) (byeS why) (okS_bye why) HSD.out).mono ?_; rintro e w3 ⟨v, rfl, hU⟩; have hE3 := hE0.ext hU.keepsTo; replace HM := Hd (HM.out.drew.newU hU); obtain ⟨a3, c3, rfl⟩ := HM.out.fact fun A h => bytR.len h
 clear hU; clear fM; have fM := HM.out.fa; refine hK _ _ ⟨ClsK.of (by assumption), ?_⟩; clear hK K; try simp only [nP]
 refine pM _ rfl rfl ?_; simp only [nP, nE]; iterate 4 (refine pR rfl (fun W => by go_simp <;> with_reducible rfl) ?_; simp only [nP])
 refine plan_nil ?_; simp only [tailL, List.filterMap_cons, List.filterMap_nil, nL]; change wpList _ _ _ (_ :: []) _ _; go_wp2_with fail; clear fM; refine nxt HM fun w4 M => ?_
 replace HM := M; clear M; go_end0
 have h1 := (HM.out.pick (r := bytR (.slice a3 (frameL (bodyL (byeS why))).length c3) (frameL (bodyL (byeS why)))) pk).byeSome (frame_pos _); exact ⟨rfl, Mem.sesUpd (rb := rb) (bv := .slice a3 (frameL (bodyL (byeS why))).length c3) (s := { s with closed := true, live := false, ring := { s.ring with items := [] }, bye := some (rawS (byeS why)) }) (Mem.sub h1 (by repeat first | exact Sub.nil | refine Sub.cons (by with_reducible repeat first | exact ph | apply pt) ?_))⟩
theorem close_does (s : Ss) (why : Int) : (s.close why).2 = doesI false (decide (0 ≤ why ∧ why ≤ 2147483647)) s.closed [] ∧ (doesB false (decide (0 ≤ why ∧ why ≤ 2147483647)) s.closed [] = true → (s.close why).1 = { s with closed := true, live := false, ring := { s.ring with items := [] }, bye := some (rawS (byeS why)) }) ∧ (doesB false (decide (0 ≤ why ∧ why ≤ 2147483647)) s.closed [] = false → (s.close why).1 = s) := by
 unfold Ss.close doesI doesB; by_cases h : 0 ≤ why ∧ why ≤ 2147483647
 · rw [if_neg (fun h' => h' h), decide_eq_true h]
   cases s.closed <;> simp [firstF, noneF]
 · rw [if_pos h, decide_eq_false h]
   simp
theorem doesB_may {nb mb cb : Bool} {x : List (Flt × Bool)} (h : doesB nb mb cb x = true) : mb = true := by
 unfold doesB at h; cases mb with
 | true => rfl
 | false => simp at h
theorem close_any {A : Nat → Prop} (w : World) (sb : Nat) (s : Ss) (why : Int) (h : (sesR sb s).p A w) (hX : TabX A w) :
 Calls Tryz.prog 38 #[.pointer (some ⟨sb, 0, none⟩), .int .i64 why] w fun e w' => e = .returned (.int .i64 (s.close why).2) ∧ Upd A w w' (sesR sb (s.close why).1) := by
 have HX := Hd hX; clear hX; obtain ⟨rb, bv, hm⟩ := (Mem.start h).sesOpen; have HM := Hd hm; clear hm h; go_enter Tryz.func38, Tryz.ntmps38
 have fM := HM.out.fa; go_wp2_with fail; all_goals clear fM
 obtain ⟨k2, hk2⟩ : ∃ k, w.heap.size = k := ⟨_, rfl⟩; obtain ⟨k3, hk3⟩ : ∃ k, w.heap.size + 1 = k := ⟨_, rfl⟩; refine nxt HM fun w1 M => ?_
 replace HM := M; clear M; rw [hk3, hk2] at HM ⊢; clear hk2 hk3; obtain ⟨_, hb3⟩ := HM.out.get (r := cellsR k3 2 [.int .i64 why]) pk; obtain ⟨_, hbs⟩ := HM.out.get (r := cellsR sb 99 (sesC rb bv s)) pk; have m1 : TellsF w1 ⟨101, #[], #[.pointer (some ⟨k3, 0, none⟩)], 0⟩ (decide (0 ≤ why ∧ why ≤ 2147483647)) := ⟨enters_of Tryz.func101 (by kernel_rfl) rfl, fun w2 h2 => sclose1 w2 k3 why (hb3.2.ext h2)⟩; have m2 := fun (hb : doesB false (decide (0 ≤ why ∧ why ≤ 2147483647)) s.closed [] = true) w2 (h2 : Ext w1 w2) => sclose2 w2 HX.out sb k2 k3 rb bv s why (of_decide_eq_true (doesB_may hb)) (HM.out.ext h2)
 obtain ⟨p1, p2, p3⟩ := close_does s why; have hd := does_any (Q := fun w' => Upd A w w' (sesR sb ({ s with closed := true, live := false, ring := { s.ring with items := [] }, bye := some (rawS (byeS why)) }))) w1 (some ⟨sb, 0, none⟩) false (decide (0 ≤ why ∧ why ≤ 2147483647)) s.closed 101 102 #[] #[.pointer (some ⟨k3, 0, none⟩)] #[] #[.pointer (some ⟨k2, 0, none⟩), .pointer (some ⟨k3, 0, none⟩)] (.slice none 0 0) [] (by simp) (fun w2 h2 => snone_ses (hbs.2.ext h2)) (fun _ => m1) (fun _ => ⟨sb, rfl, hbs.2.reads.1 8⟩) (.inl ⟨rfl, rfl⟩) (enters_of Tryz.func102 (by kernel_rfl) rfl) (fun hb => m2 hb); clear m1 m2; refine hd.mono ?_; clear hd; rintro e w2 ⟨rfl, h1, h2⟩
 have key : Upd A w w2 (sesR sb (s.close why).1) := by
  cases hb : doesB false (decide (0 ≤ why ∧ why ≤ 2147483647)) s.closed [] with
  | true => rw [p2 hb]; exact h1 hb
  | false => rw [p3 hb]; exact Mem.sesUpd (Mem.sub (HM.out.ext (h2 hb)) (by repeat first | exact Sub.nil | refine Sub.cons (by with_reducible repeat first | exact ph | apply pt) ?_))
 have HK := Hd key; rw [← p1]; clear h1 h2 p1 p2 p3 key hbs; clear hb3; go_wp2_with fail; go_ret; exact ⟨rfl, HK.out⟩
theorem byeR.form {A : Nat → Prop} {w : World} {v : Value} {o : Option (List UInt8)} (h : (byeR v o).p A w) : (o = none ∧ v = .slice none 0 0) ∨ ∃ l p c, o = some l ∧ v = .slice (some p) l.length c := by
 rcases h with ⟨h1, h2, -⟩ | ⟨l, h1, h2, h3⟩
 · exact .inl ⟨h1, h2⟩
 · refine .inr ⟨l, ?_⟩
   obtain ⟨g, o, cap, hv, -⟩ := Win.form h3.2 (List.length_pos_iff.2 h2); exact ⟨_, _, h1, hv⟩
theorem Ss.queued_some {s : Ss} {l : List UInt8} (h : s.bye = some l) : s.queued = 1 := by unfold Ss.queued; rw [h]; rfl
theorem Ss.queued_none {s : Ss} (h : s.bye = none) : s.queued = ((mains s.ring.items : Nat) : Int) + (sides s.ring.items : Nat) := by
 unfold Ss.queued; rw [h]
 have : ∀ l : List It, ((l.length : Nat) : Int) = (mains l : Nat) + (sides l : Nat) := by
  intro l; induction l with
  | nil => rfl
  | cons x l ih =>
    unfold mains sides at ih ⊢; cases hs : x.side <;> simp [hs] <;> omega
 exact this _
theorem ses_parts {A : Nat → Prop} {w : World} {sb : Nat} {s : Ss} (h : (sesR sb s).p A w) : ∃ rb bv A1 A2, Box w sb 99 (sesC rb bv s) ∧ (ringR rb s.ring).p A1 w ∧ (byeR bv s.bye).p A2 w ∧ (∀ k, A1 k → A k) ∧ (∀ k, A2 k → A k) := by
 obtain ⟨⟨rb, bv⟩, C1, D1, h1, ⟨C2, D2, h2, ⟨C3, D3, h3, -, -, h6⟩, -, h5⟩, -, h4⟩ := h; exact ⟨rb, bv, C2, C3, h1.2, h2, h3, fun k hk => (h4 k).2 (.inr ((h5 k).2 (.inl hk))), fun k hk => (h4 k).2 (.inr ((h5 k).2 (.inr ((h6 k).2 (.inl hk)))))⟩
theorem state_any {A : Nat → Prop} (w : World) (sb : Nat) (s : Ss) (h : (sesR sb s).p A w) (hi : ∀ x ∈ s.ring.items, x.bytes.length ≤ 1000000) (hl : s.ring.items.length ≤ 1000) :
 Calls Tryz.prog 39 #[.pointer (some ⟨sb, 0, none⟩)] w fun e w' => e = .returned (.agg s.state.toArray) ∧ Ext w w' := by
 obtain ⟨rb, bv, A1, A2, hb, hr, hy, -, -⟩ := ses_parts h; have HM := Hd (Mem.start0 w); have HBS := Hd hb; have HR := Hd hr; have HI := Hd hi; have hm1 := mains_le s.ring.items; have hm2 := sides_le s.ring.items; have hq1 := eq_noneU; have hq2 := eq_sliceU; rcases byeR.form hy with ⟨h1, rfl⟩ | ⟨l, p, c, h1, rfl⟩
 · have HQ := Hd (Ss.queued_none h1)
   clear h hb hr hi hy h1; go_enter Tryz.func39, Tryz.ntmps39
   have fM := HM.out.fa; have fMHBS := (HBS.out.ext HM.out.extTo).reads; have fLHBS := (HBS.out.ext HM.out.extTo).lt; go_wp2_with fail; all_goals clear fM fMHBS fLHBS
   refine nxt HM fun w1 M => ?_
   replace HM := M; clear M; refine cret (snone_ses (HBS.out.ext HM.out.extTo)) ?_; have fM := HM.out.fa; have fMHBS := (HBS.out.ext HM.out.extTo).reads; have fLHBS := (HBS.out.ext HM.out.extTo).lt; go_wp2_with fail; all_goals clear fM fMHBS fLHBS
   refine nxt HM fun w2 M => ?_
   replace HM := M; clear M; refine (len_r w2 rb s.ring (Res.keeps _ HR.out HM.out.extTo (fun _ _ => noB _)) HI.out).mono ?_; rintro e w3 ⟨rfl, hE⟩; replace HM := Hd (HM.out.ext hE); clear hE; have fM := HM.out.fa; have fMHBS := (HBS.out.ext HM.out.extTo).reads; have fLHBS := (HBS.out.ext HM.out.extTo).lt; go_wp2_with fail; all_goals clear fM fMHBS fLHBS
   refine nxt HM fun w4 M => ?_
   replace HM := M; clear M; refine bodyPost_ret (results_c rfl _ rfl (loadVar_wide 68 HM.out (by with_reducible repeat first | exact ph | apply pt) Tryz.underlying68 rfl (by kernel_rfl))) rfl ?_; exact ⟨by simp [HQ.out], HM.out.extTo⟩
 · have HQ := Hd (Ss.queued_some h1)
   clear h hb hr hi hy h1; go_enter Tryz.func39, Tryz.ntmps39
   have fM := HM.out.fa; have fMHBS := (HBS.out.ext HM.out.extTo).reads; have fLHBS := (HBS.out.ext HM.out.extTo).lt; go_wp2_with fail; all_goals clear fM fMHBS fLHBS
   refine nxt HM fun w1 M => ?_
   replace HM := M; clear M; refine cret (snone_ses (HBS.out.ext HM.out.extTo)) ?_; have fM := HM.out.fa; have fMHBS := (HBS.out.ext HM.out.extTo).reads; have fLHBS := (HBS.out.ext HM.out.extTo).lt; go_wp2_with fail; all_goals clear fM fMHBS fLHBS
   refine nxt HM fun w2 M => ?_
   replace HM := M; clear M; refine (len_r w2 rb s.ring (Res.keeps _ HR.out HM.out.extTo (fun _ _ => noB _)) HI.out).mono ?_; rintro e w3 ⟨rfl, hE⟩; replace HM := Hd (HM.out.ext hE); clear hE; have fM := HM.out.fa; have fMHBS := (HBS.out.ext HM.out.extTo).reads; have fLHBS := (HBS.out.ext HM.out.extTo).lt; go_wp2_with fail; all_goals clear fM fMHBS fLHBS
   refine nxt HM fun w4 M => ?_
   replace HM := M; clear M; refine bodyPost_ret (results_c rfl _ rfl (loadVar_wide 68 HM.out (by with_reducible repeat first | exact ph | apply pt) Tryz.underlying68 rfl (by kernel_rfl))) rfl ?_; exact ⟨by simp [HQ.out], HM.out.extTo⟩
end Go.Proofs.YtoadjbgpfihoiaaGreatDoor
