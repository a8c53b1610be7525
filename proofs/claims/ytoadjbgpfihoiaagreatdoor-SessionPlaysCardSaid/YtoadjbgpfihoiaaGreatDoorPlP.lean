/- Texts WireC, Rdr, Try, RdrN, IterS, one behind the other. Conditions: as each says. -/
import Derived.Test.YtoadjbgpfihoiaaGreatDoorPlK
import Derived.Test.YtoadjbgpfihoiaaGreatDoorPlM
import Derived.Recover
import Derived.WalkLawsBesides
set_option linter.unusedVariables false
set_option linter.unusedSimpArgs false
set_option maxHeartbeats 8000000
set_option maxRecDepth 100000
namespace Go.Proofs.YtoadjbgpfihoiaaGreatDoor
open Go.RowKit
theorem wn1_any (w : World) (n : Nat) (hn : n ≤ topN) : Calls Tryz.prog 212 #[.int .i64 (n : Int)] w fun e w' => e = .returned (.bool false) ∧ w' = w := by
 have hd : decide ((0 : Int) ≤ (n : Int) ∧ (n : Int) ≤ 4611686018427387904) = true := decide_eq_true (by unfold topN at hn; omega); have HD := Hd hd; clear hd; go_enter Tryz.func212, Tryz.ntmps212
 go_wp2_with fail; refine (win64_any w n 0 4611686018427387904).mono ?_; rintro e w2 ⟨rfl, rfl⟩; rw [HD.out]; go_wp2_with fail; go_ret; exact ⟨rfl, rfl⟩
def intsV (ns : List Nat) : List Value := ns.map fun (n : Nat) => .int .i64 (n : Int)
theorem intsV_get (ns : List Nat) (i : Nat) (h : i < ns.length) : (intsV ns)[i]? = some (.int .i64 (ns[i] : Int)) := by
 unfold intsV; rw [List.getElem?_map, List.getElem?_eq_getElem h]; rfl
theorem windex_any (w : World) (q : Nat) (ns : List Nat) (hl : ns.length ≤ 1000) (hq : Box w q 2 (intsV ns)) (hn : ∀ n ∈ ns, n ≤ topN) :
 Calls Tryz.prog 272 #[.slice (some ⟨q, 0, none⟩) ns.length ns.length, .func (.func 212) #[] #[]] w fun e w' => e = .returned (.int .i64 (-1)) ∧ w' = w := by
 have HQ := Hd hq; have HN := Hd hn; clear hq hn; go_enter Tryz.func272, Tryz.ntmps272
 go_wp2_with fail; go_loopw [8] (fun i wr => ∃ j : Nat, j ≤ ns.length ∧ i = .int .i64 j ∧ wr = w) (fun i _ => ns.length - (intOf i).toNat)
 case atStart => exact ⟨0, Nat.zero_le _, rfl, rfl⟩
 case round =>
  obtain ⟨j, hj, rfl, rfl⟩ := hrel; by_cases hlt : j < ns.length
  · have g1 : (j : Int) < ns.length := by omega
    have g2 : ¬ (j : Int) < 0 := by omega
    have hlq := HQ.out.lt; have hc := HQ.out.reads.1 j; rw [intsV_get ns j hlt] at hc; have HX := Hd (HN.out _ (List.getElem_mem hlt)); obtain ⟨x, hx⟩ : ∃ x, ns[j] = x := ⟨_, rfl⟩; rw [hx] at hc HX; clear hx; go_wp2_with fail; refine (wn1_any wr x HX.out).mono ?_; rintro e w2 ⟨rfl, rfl⟩; go_wp2_with fail; go_roundw
    case rel => exact ⟨j + 1, by omega, by go_num, trivial⟩
    case measure => simp [intOf]; omega
  · obtain rfl : j = ns.length := by omega
    go_wp2_with fail; go_ret; exact ⟨rfl, rfl⟩
theorem wcontains_any (w : World) (q : Nat) (ns : List Nat) (hl : ns.length ≤ 1000) (hq : Box w q 2 (intsV ns)) (hn : ∀ n ∈ ns, n ≤ topN) :
 Calls Tryz.prog 211 #[.slice (some ⟨q, 0, none⟩) ns.length ns.length, .func (.func 212) #[] #[]] w fun e w' => e = .returned (.bool false) ∧ w' = w := by
 have HQ := Hd hq; have HN := Hd hn; clear hq hn; go_enter Tryz.func211, Tryz.ntmps211
 go_wp2_with fail; refine (windex_any w q ns hl HQ.out HN.out).mono ?_; rintro e w2 ⟨rfl, rfl⟩; go_wp2_with fail; go_ret; exact ⟨rfl, rfl⟩
def numsL (ns : List Nat) : List UInt8 := (ns.map numL).flatten
theorem numsL_take (ns : List Nat) (j : Nat) (h : j < ns.length) : numsL (ns.take (j + 1)) = numsL (ns.take j) ++ numL ns[j] := by
 unfold numsL; rw [List.take_succ_eq_append_getElem h, List.map_append, List.flatten_append]; simp
theorem numsL_len (ns : List Nat) : (numsL ns).length ≤ ns.length * 10 := by
 induction ns with
 | nil => simp [numsL]
 | cons n ns ih =>
   have h1 : numsL (n :: ns) = numL n ++ numsL ns := by simp [numsL]
   have := numL_len n; rw [h1, List.length_append, List.length_cons]; omega
theorem wnumber_any {A : Nat → Prop} (w : World) (b q : Nat) (l : List UInt8) (ns : List Nat) (hl : l.length ≤ 1073741824) (hk : ns.length ≤ 1000) (hq : Box w q 2 (intsV ns)) (hA : ¬ A q) (hn : ∀ n ∈ ns, n ≤ topN) (h : (writerR b l).p A w) :
 Calls Tryz.prog 153 #[.pointer (some ⟨b, 0, none⟩), .slice (some ⟨q, 0, none⟩) ns.length ns.length] w fun e w' => e = .returned (.int .i64 0) ∧ Upd A w w' (writerR b (l ++ numsL ns)) := by
 have HN := Hd hn; have HQ := Hd hq; have HA := Hd hA; clear hn hq hA; obtain ⟨a, c, hm⟩ := (Mem.start (r := writerR b l) h).openW; have HM := Hd hm; have HLL := Hd hl; clear h hl hm; go_enter Tryz.func153, Tryz.ntmps153
 go_wp2_with fail; obtain ⟨Ahb, hb⟩ := HM.out.get (r := cellsR b 291 [.slice a l.length c, .bool true]) pk; refine (writer_none w b _ hb).mono ?_; rintro e w' ⟨rfl, hwq⟩; rw [hwq]; clear hwq w' hb Ahb; go_wp2_with fail; refine (wcontains_any w q ns hk HQ.out HN.out).mono ?_; rintro e w2 ⟨rfl, rfl⟩; go_wp2_with fail; go_loopw [15] (fun i wr => ∃ (j : Nat) (l1 : List UInt8) (a1 : Option Addr) (c1 : Nat), j ≤ ns.length ∧ i = .int .i64 j ∧ Hid (l1 = l ++ numsL (ns.take j)) ∧ Hid (Mem A w2 wr [cellsR b 291 [.slice a1 l1.length c1, .bool true], bytR (.slice a1 l1.length c1) l1])) (fun i _ => ns.length - (intOf i).toNat)
 case atStart => exact ⟨0, l, a, c, Nat.zero_le _, rfl, Hd (by simp [numsL]), HM⟩
 case round =>
  clear HM; obtain ⟨j, l1, a1, c1, hj, rfl, HT, HM⟩ := hrel; by_cases hlt : j < ns.length
  · have g1 : (j : Int) < ns.length := by omega
    have g2 : ¬ (j : Int) < 0 := by omega
    have HL1 := Hd (show l1.length ≤ 1099511627776 by
     have h1 := congrArg List.length HT.out; rw [List.length_append] at h1; have h2 := numsL_len (ns.take j); rw [List.length_take] at h2; have := HLL.out; omega)
    have hq2 := HQ.out.keeps HM.out.keepsTo HA.out; have hlq := hq2.lt; have hc := hq2.reads.1 j; rw [intsV_get ns j hlt] at hc; have HX := Hd (HN.out _ (List.getElem_mem hlt)); have HS := Hd (show l1 ++ numL ns[j] = l ++ numsL (ns.take (j + 1)) by rw [numsL_take ns j hlt, HT.out, List.append_assoc]); obtain ⟨x, hx⟩ : ∃ x, ns[j] = x := ⟨_, rfl⟩; rw [hx] at hc HX HS; clear hx hq2; have fM := HM.out.fa; go_wp2_with fail; all_goals clear fM
    clear hc; obtain ⟨B, hB, hS⟩ := (HM.out.pick (r := bytR (.slice a1 l1.length c1) l1) pk).step; refine (wnum_any _ _ l1 x (by have := HX.out; unfold topN at this; omega) HL1.out hB).mono ?_; rintro e w2 ⟨v2, rfl, hU⟩; obtain ⟨l2, hl2⟩ : ∃ l2, l1 ++ numL x = l2 := ⟨_, rfl⟩; rw [hl2] at hU; have HL2 := Hd hl2; obtain ⟨a2, c2, rfl⟩ : ∃ a2 c2, v2 = .slice a2 l2.length c2 := let ⟨_, h, _⟩ := hU; bytR.len h
    replace HM := Hd (hS _ _ hU); clear hU hS hB B hl2; have fM := HM.out.fa; go_wp2_with fail; all_goals clear fM
    go_roundw
    case rel => exact ⟨j + 1, l2, a2, c2, by omega, by go_num, Hd (by rw [← HL2.out]; exact HS.out), Hd HM.out.to⟩
    case measure => simp [intOf]; omega
  · obtain rfl : j = ns.length := by omega
    rw [List.take_length] at HT; go_wp2_with fail; go_ret; refine ⟨rfl, ?_⟩; rw [← HT.out]; exact (Mem.shutW (L := []) HM.out).upd
theorem Upd.keepsTo {F : Nat → Prop} {w0 w : World} {r : Res} (h : Upd F w0 w r) : Keeps F w0 w := let ⟨_, _, h, _⟩ := h; h
theorem wall_any {A : Nat → Prop} (w : World) (b : Nat) (l : List UInt8) (hl : l.length ≤ 1073741824) (h : (writerR b l).p A w) :
 Calls Tryz.prog 155 #[.pointer (some ⟨b, 0, none⟩)] w fun e w' => ∃ v', e = .returned v' ∧ Win w' w.heap.size 1 v' l.length (l.map byV) ∧ Ext w w' := by
 obtain ⟨a, c, hm⟩ := (Mem.start (r := writerR b l) h).openW; have HM := Hd hm; have HLL := Hd hl; clear h hl hm; go_enter Tryz.func155, Tryz.ntmps155
 go_wp2_with fail; obtain ⟨Ahb, hb⟩ := HM.out.get (r := cellsR b 291 [.slice a l.length c, .bool true]) pk; refine (writer_none w b _ hb).mono ?_; rintro e w' ⟨rfl, hwq⟩; rw [hwq]; clear hwq w' hb Ahb; have fM := HM.out.fa; go_wp2_with fail; all_goals clear fM
 obtain ⟨Ahb, hb⟩ := HM.out.get (r := bytR (.slice a l.length c) l) pk; refine (clone_bytes w _ l (bytR.bytes hb) (by have := HLL.out; omega)).mono ?_; rintro e w2 ⟨v', rfl, hw, hE⟩; have HW := Hd hw; have HE := Hd hE; clear hw hE hb; go_wp2_with fail; go_ret; exact ⟨_, rfl, HW.out, HE.out⟩
theorem frame_any {A : Nat → Prop} (w : World) (v : Value) (l : List UInt8) (h : Bytes w A v l) (hA : ∀ k, A k → k < w.heap.size) (hl : l.length ≤ 4096) :
 Calls Tryz.prog 154 #[v] w fun e w' => ∃ v', e = .returned (.tuple #[v', .int .i64 0]) ∧ Upd NoB w w' (bytR v' (frameL l)) := by
 obtain ⟨a, c, rfl⟩ := h.len; have HM := Hd (Mem.start0 w); have HB := Hd h; have HA := Hd hA; have HLL := Hd hl; clear h hA; go_enter Tryz.func154, Tryz.ntmps154
 go_wp2_with fail; refine (seal_any w _ l HB.out HA.out (by omega)).mono ?_; rintro e w2 ⟨v2, rfl, hb2, hE⟩; replace HM := Hd (HM.out.ext hE); have HB2 := Hd hb2; obtain ⟨a2, c2, rfl⟩ := hb2.len; rw [sealL_len]; rw [sealL_len] at HB2; clear hE hb2; replace HM := Hd HM.out.bytNil; obtain ⟨B, hB, hS⟩ := HM.out.step; have hw : wrap64 ((l.length : Int) + 4) = ((l.length + 4 : Nat) : Int) := IntWalk.wrap64_in _ (by omega); go_wp2_with fail; rw [show ((l.length : Int) + 4) = ((l.length + 4 : Nat) : Int) from rfl]; refine (wnum_any _ _ [] (l.length + 4) (by omega) (by simp) hB).mono ?_; rintro e w3 ⟨v3, rfl, hU⟩; rw [List.nil_append] at hU; replace HM := Hd (hS _ _ hU); replace HB2 := Hd (HB2.out.keeps hU.keepsTo (fun k hk hBk => by have := hB.1; have := (hB.1 k).1 hBk; cases this)); obtain ⟨a3, c3, rfl⟩ := HM.out.fact (fun A h => bytR.len h); clear hU hS hB B; go_wp2_with (at_builtin; refine standing ?_); have hln := numL_len (l.length + 4); obtain ⟨v8, w8, hr, hm9⟩ := Mem.bytAdd 27 HM.out _ _ HB2.out (by rw [sealL_len]; omega); replace HM := Hd hm9; refine ⟨?_⟩; refine wpList_append_ran rfl _ _ hr rfl rfl rfl ?_; clear hr hm9; go_wp2_with fail; go_ret2
 exact ⟨_, rfl, HM.out.upd⟩
def splitE (w w' : World) (l : List UInt8) (e : Ending) : Prop := ∃ b, e = .returned (.tuple #[b, .int .i64 ((splitL l).2.1 : Int), .int .i64 (splitL l).2.2]) ∧ Bytes w' (New w w') b (splitL l).1
theorem splitE.nil {w w' : World} {l : List UInt8} {n : Nat} {e : Int} (h : splitL l = ([], n, e)) : splitE w w' l (.returned (.tuple #[.slice none 0 0, .int .i64 (n : Int), .int .i64 e])) := by
 unfold splitE; rw [h]; exact ⟨_, rfl, SlV.nil⟩
theorem split_any {A : Nat → Prop} (w : World) (v : Value) (l : List UInt8) (h : Bytes w A v l) (hA : ∀ k, A k → k < w.heap.size) (hl : l.length ≤ 1099511627776) :
 Calls Tryz.prog 194 #[v] w fun e w' => splitE w w' l e ∧ Ext w w' := by
 obtain ⟨a, c, rfl⟩ := h.len; have HM := Hd (Mem.start0 w); have HB := Hd h; have HA := Hd hA; have HLL := Hd hl; have hcap := h.cap; have hsp : splitL l = splitL l := rfl; conv at hsp => rhs; unfold splitL
 have HS := Hd hsp; clear h hA hsp; go_enter Tryz.func194, Tryz.ntmps194
 go_wp2_with fail; refine cret (taken_any w _ l (by omega) HB.out) ?_; obtain ⟨hk1, hk2, hk3⟩ := takeL_k l; obtain ⟨k, hk⟩ : ∃ k, (takeL l).2 = k := ⟨_, rfl⟩; obtain ⟨m, hm⟩ : ∃ m, (takeL l).1 = m := ⟨_, rfl⟩; have hm2 := takeL_le l; rw [hk, hm] at HS ⊢; rw [hk] at hk1 hk2 hk3; rw [hm] at hm2; clear hk hm; by_cases h0 : k = 0
 · subst h0
   rw [if_pos rfl] at HS; go_wp2_with fail; go_ret3
   exact ⟨splitE.nil HS.out, HM.out.extTo⟩
 rw [if_neg h0] at HS; have h0' : (k == 0) = false := by simpa using h0
 by_cases h1 : k < 0
 · rw [if_pos (.inl h1)] at HS
   go_wp2_with fail; go_ret3
   exact ⟨splitE.nil HS.out, HM.out.extTo⟩
 go_wp2_with fail; refine cret (win64_any w m 4 4100) ?_; by_cases h2 : m < 4 ∨ 4100 < m
 · rw [if_pos (.inr h2)] at HS
   rw [decide_eq_false (show ¬ ((4 : Int) ≤ (m : Int) ∧ (m : Int) ≤ 4100) by omega)]; go_wp2_with fail; go_ret3
   exact ⟨splitE.nil HS.out, HM.out.extTo⟩
 rw [if_neg (fun h => h.elim (fun h => absurd h1 (by omega)) h2)] at HS; rw [decide_eq_true (show ((4 : Int) ≤ (m : Int) ∧ (m : Int) ≤ 4100) by omega)]; obtain ⟨kn, rfl⟩ : ∃ kn : Nat, k = kn := ⟨k.toNat, by omega⟩; rw [Int.toNat_natCast] at HS; have hw1 : wrap64 ((l.length : Int) - (kn : Int)) = (l.length : Int) - (kn : Int) := IntWalk.wrap64_in _ (by omega); by_cases h3 : l.length < kn + m
 · rw [if_pos h3] at HS
   have h3' : (l.length : Int) - (kn : Int) < (m : Int) := by omega
   go_wp2_with fail; go_ret3
   exact ⟨splitE.nil HS.out, HM.out.extTo⟩
 rw [if_neg h3] at HS; have h3' : ¬ (l.length : Int) - (kn : Int) < (m : Int) := by omega
 obtain ⟨ed, hed⟩ : ∃ ed, kn + m = ed := ⟨_, rfl⟩; have hed' : (kn : Int) + (m : Int) = (ed : Int) := by omega
 have hw2 : wrap64 ((kn : Int) + (m : Int)) = (ed : Int) := by rw [hed']; exact IntWalk.wrap64_in _ (by omega)
 have hsl := fun W => slice_lh W a l.length c kn ed (by omega) (by omega)
 have hb1 := HB.out.part kn ed (by omega) (by omega); have e0 : (l.take ed).drop kn = (l.drop kn).take m := by rw [List.drop_take]; congr 1; omega
 rw [e0] at hb1; obtain ⟨a1, c1, e1⟩ := part_len (a := a) (i := kn) (j := ed) (c := c) (s := 1); rw [e1] at hsl hb1; rw [show ed - kn = m by omega] at hsl hb1; obtain ⟨q, hq⟩ : ∃ q, (l.drop kn).take m = q := ⟨_, rfl⟩; rw [hq] at HS hb1; have hql : q.length = m := by rw [← hq, List.length_take, List.length_drop]; omega
 rw [hed] at HS; have HB1 := Hd hb1; have HQL := Hd (show q.length ≤ 4100 by omega); clear hb1 hq e0 e1 hql hed; go_wp2_with fail; refine (open_any w _ q HB1.out HA.out (by have := HQL.out; omega)).mono ?_; rintro e w2 ⟨⟨r, rfl, hr⟩, hE⟩; have HE := Hd hE; unfold openE at hr; cases ho : openL q with
 | none =>
   rw [ho] at hr HS; have hr' : r = .tuple #[.slice none 0 0, .int .i64 110] := hr; subst hr'; clear hr ho; go_wp2_with fail; go_ret3
   exact ⟨splitE.nil HS.out, HE.out⟩
 | some x =>
   rw [ho] at hr HS; obtain ⟨b, rfl, hb⟩ := hr; have HX := Hd hb; clear hb ho; go_wp2_with fail; go_ret3
   refine ⟨?_, HE.out⟩; unfold splitE; rw [HS.out]; exact ⟨_, rfl, HX.out⟩
def listR (L : List Res) : Res := anyR (fun F w => SepL L F w) (fun h hk hs => h.keeps hk hs) (fun h => h.lt)
theorem Mem.unlist {F : Nat → Prop} {w0 w : World} {L L1 : List Res} (h : Mem F w0 w (listR L1 :: L)) : Mem F w0 w (L1 ++ L) := h.open fun A hA => ⟨A, hA, fun _ h => h⟩
theorem Mem.list' {F : Nat → Prop} {w0 w : World} {L L1 : List Res} (h : Mem F w0 w (L1 ++ L)) : Mem F w0 w (listR L1 :: L) := h.close fun _ hA => hA
def readR (v : Value) (l : List UInt8) : Res := anyR (fun F w => Bytes w F v l ∧ ∀ k, F k → k < w.heap.size)
 (fun h hk hs => ⟨h.1.keeps hk hs, fun k hF => Nat.lt_of_lt_of_le (h.2 k hF) hk.size⟩) (fun h => h.2)
theorem readR.len {A : Nat → Prop} {w : World} {v : Value} {l : List UInt8} (h : (readR v l).p A w) : ∃ a c, v = .slice a l.length c := h.1.len
def readerR (b : Nat) (r : Rdr) : Res := anyR (fun F w => ∃ v, SepL [cellsR b 327 [v, .int .i64 r.e, .bool true], readR v r.b] F w) (fun h hk hs => let ⟨v, h⟩ := h; ⟨v, h.keeps hk hs⟩) (fun h => let ⟨v, h⟩ := h; h.lt)
theorem Mem.openR {F : Nat → Prop} {w0 w : World} {L : List Res} {b : Nat} {r : Rdr} (h : Mem F w0 w (readerR b r :: L)) : ∃ a c, Mem F w0 w (cellsR b 327 [.slice a r.b.length c, .int .i64 r.e, .bool true] :: readR (.slice a r.b.length c) r.b :: L) := by
 obtain ⟨v, h2⟩ := h.openE (M := fun v => [cellsR b 327 [v, .int .i64 r.e, .bool true], readR v r.b]) fun A hA => let ⟨v, h⟩ := hA; ⟨v, A, h, fun _ h => h⟩
 obtain ⟨a, c, rfl⟩ := (h2.pick (.there .here)).fact fun A hA => readR.len hA
 exact ⟨a, c, h2⟩
theorem Mem.shutR {F : Nat → Prop} {w0 w : World} {L : List Res} {b : Nat} {v : Value} {l : List UInt8} {e : Int} (h : Mem F w0 w (cellsR b 327 [v, .int .i64 e, .bool true] :: readR v l :: L)) : Mem F w0 w (readerR b ⟨l, e⟩ :: L) :=
 h.close (L1 := [cellsR b 327 [v, .int .i64 e, .bool true], readR v l]) fun A hA => ⟨v, hA⟩
theorem Mem.part {F : Nat → Prop} {w0 w : World} {L : List Res} {a : Option Addr} {c : Nat} {l : List UInt8} (h : Mem F w0 w (readR (.slice a l.length c) l :: L)) (i j : Nat) (hij : i ≤ j) (hj : j ≤ l.length) : Mem F w0 w (readR (sliced a i j c 1) ((l.take j).drop i) :: L) :=
 h.turn fun A hA => ⟨hA.1.part i j hij hj, hA.2⟩
def brokenE : Ending := .panicked [{ v := .iface 342 (.agg #[]), recovered := false }]
theorem wmust_any (w : World) (x : Bool) : Calls Tryz.prog 282 #[.bool x] w fun e w' => e = (if x then .returned (.tuple #[]) else brokenE) ∧ w' = w := by
 cases x
 · go_enter Tryz.func282, Tryz.ntmps282
   go_wp2_with fail; exact ⟨rfl, rfl, rfl⟩
 · go_enter Tryz.func282, Tryz.ntmps282
   go_wp2_with fail; go_end0
   exact ⟨rfl, rfl⟩
theorem Mem.apart {F : Nat → Prop} {w0 w : World} {L : List Res} {b : Nat} {t : TypeId} {cs : List Value} {r : Res} (h : Mem F w0 w (cellsR b t cs :: r :: L)) : ∃ A, r.p A w ∧ ¬ A b := by
 obtain ⟨-, G, ⟨A, B, h1, ⟨C, D, h2, h3, h4, h5⟩, h6, h7⟩, -⟩ := h; exact ⟨C, h2, fun hC => h6 b ((h1.1 b).2 rfl) ((h5 b).2 (.inl hC))⟩
theorem ltake_ok {A : Nat → Prop} (w : World) (b n : Nat) (r : Rdr) (hl : r.b.length ≤ 70368744177664) (hnl : n ≤ r.b.length) (h : (readerR b r).p A w) :
 Calls Tryz.prog 286 #[.pointer (some ⟨b, 0, none⟩), .int .i64 (n : Int)] w fun e w' =>
  (∃ a c B, e = .returned (.slice a n c) ∧ Bytes w' B (.slice a n c) (r.b.take n)) ∧ Upd A w w' (readerR b ⟨r.b.drop n, r.e⟩) := by
 obtain ⟨a, c, hm⟩ := (Mem.start (r := readerR b r) h).openR; have HM := Hd hm; have HLL := Hd hl; obtain ⟨l, e0⟩ := r; dsimp only at HM HLL; clear h hl hm; dsimp only at hnl ⊢; have g1 : (n : Int) ≤ (l.length : Int) := by omega
 obtain ⟨A1, hA1, hnb⟩ := HM.out.apart; have hcap := hA1.1.cap; have hb1 := hA1.1.part 0 n (by omega) hnl; rw [List.drop_zero] at hb1; have hsh := fun W => slice_h W a l.length c n (by omega)
 have hsl := fun W => slice_l W a l.length c n hnl
 obtain ⟨a1, c1, e1⟩ := part_len (a := a) (i := 0) (j := n) (c := c) (s := 1); rw [e1, Nat.sub_zero] at hsh hb1; have hm := ((HM.out.pick (r := readR (.slice a l.length c) l) pk).part n l.length hnl (Nat.le_refl _)); rw [List.take_length] at hm; obtain ⟨a2, c2, e2⟩ := part_len (a := a) (i := n) (j := l.length) (c := c) (s := 1); rw [e2] at hsl hm; have hd : l.length - n = (l.drop n).length := by rw [List.length_drop]
 rw [hd] at hsl hm; obtain ⟨q, hq⟩ : ∃ q, l.take n = q := ⟨_, rfl⟩; obtain ⟨d, hdd⟩ : ∃ d, l.drop n = d := ⟨_, rfl⟩; rw [hdd] at hsl hm ⊢; rw [hq] at hb1 ⊢; replace HM := Hd hm; have HB1 := Hd (show ∀ W, Keeps (OneB b) w W → Bytes W A1 (.slice a1 n c1) q from fun W hk => hb1.keeps hk fun k hA hk => hnb (by rw [← show k = b from hk]; exact hA)); clear hm hdd hd e1 e2 hb1 hA1 hq hnb; go_enter Tryz.func286, Tryz.ntmps286
 have fM := HM.out.fa; go_wp2_with fail; all_goals clear fM
 refine (wmust_any w _).mono ?_; rintro e w' ⟨rfl, hwq⟩; rw [hwq]; clear hwq w'; simp only [if_true]; have fM := HM.out.fa; go_wp2_with fail; all_goals clear fM
 go_ret; refine ⟨⟨a1, c1, A1, rfl, HB1.out _ ((Keeps.refl _ _).setOne _ _)⟩, ?_⟩; refine nxt HM fun w3 M => ?_
 replace HM := M; clear M; exact (Mem.shutR (L := []) (Mem.sub HM.out (by repeat first | exact Sub.nil | refine Sub.cons (by with_reducible repeat first | exact ph | apply pt) ?_))).upd
theorem ltake_bad {A : Nat → Prop} (w : World) (b n : Nat) (r : Rdr) (hl : r.b.length ≤ 70368744177664) (hnl : r.b.length < n) (h : (readerR b r).p A w) :
 Calls Tryz.prog 286 #[.pointer (some ⟨b, 0, none⟩), .int .i64 (n : Int)] w fun e w' => e = brokenE ∧ w' = w := by
 obtain ⟨a, c, hm⟩ := (Mem.start (r := readerR b r) h).openR; have HM := Hd hm; have HLL := Hd hl; obtain ⟨l, e0⟩ := r; dsimp only at HM HLL; clear h hl hm; dsimp only at hnl; have g1 : ¬ (n : Int) ≤ (l.length : Int) := by omega
 go_enter Tryz.func286, Tryz.ntmps286
 have fM := HM.out.fa; go_wp2_with fail; all_goals clear fM
 refine (wmust_any w _).mono ?_; rintro e w' ⟨rfl, hwq⟩; rw [hwq]; clear hwq w'; simp only [Bool.false_eq_true, if_false, brokenE]; go_wp2_with fail; exact ⟨rfl, rfl, rfl⟩
theorem rnum_ok {A : Nat → Prop} (w : World) (b n : Nat) (g : Int) (k : Nat) (r : Rdr) (hl : r.b.length ≤ 70368744177664) (hk : takeL r.b = (n, (k : Int))) (hk0 : 0 < k) (hn : (n : Int) ≤ g) (h : (readerR b r).p A w) :
 Calls Tryz.prog 297 #[.pointer (some ⟨b, 0, none⟩), .int .i64 g] w fun e w' => e = .returned (.int .i64 (n : Int)) ∧ Upd A w w' (readerR b ⟨r.b.drop k, r.e⟩) := by
 have hkl := (takeL_k r.b).2.2; rw [hk] at hkl; dsimp only at hkl; obtain ⟨a, c, hm⟩ := (Mem.start (r := readerR b r) h).openR; have HM := Hd hm; have HLL := Hd hl; obtain ⟨l, e0⟩ := r; dsimp only at HM HLL; clear h hl hm; dsimp only at hk hkl ⊢; have HK := Hd (show takeL l = (n, (k : Int)) ∧ k ≤ l.length from ⟨hk, by omega⟩); have g1 : (0 : Int) < (k : Int) := by omega
 clear hk hkl; go_enter Tryz.func297, Tryz.ntmps297
 have fM := HM.out.fa; go_wp2_with fail; all_goals clear fM
 obtain ⟨Ahb, hb⟩ := HM.out.get (r := readR (.slice a l.length c) l) pk; refine (taken_any w _ l HLL.out hb.1).mono ?_; rintro e w' ⟨rfl, hwq⟩; rw [hwq, HK.out.1]; clear hwq w' hb; have fM := HM.out.fa; go_wp2_with fail; all_goals clear fM
 refine (wmust_any w _).mono ?_; rintro e w' ⟨rfl, hwq⟩; rw [hwq]; clear hwq w'; simp only [if_true]; go_wp2_with fail; replace HM := Hd (Mem.shutR (L := []) HM.out); obtain ⟨B, hB, hS⟩ := HM.out.step; refine (ltake_ok w b k ⟨l, e0⟩ HLL.out HK.out.2 hB).mono ?_; rintro e w2 ⟨⟨a1, c1, B1, rfl, hb1⟩, hU⟩; replace HM := Hd (hS _ _ hU); clear hU hS hB hb1; go_wp2_with fail; go_ret; exact ⟨rfl, HM.out.upd⟩
theorem rnum_bad {A : Nat → Prop} (w : World) (b : Nat) (g : Int) (r : Rdr) (hl : r.b.length ≤ 70368744177664) (hk : ¬ (0 < (takeL r.b).2 ∧ ((takeL r.b).1 : Int) ≤ g)) (h : (readerR b r).p A w) :
 Calls Tryz.prog 297 #[.pointer (some ⟨b, 0, none⟩), .int .i64 g] w fun e w' => e = brokenE ∧ w' = w := by
 obtain ⟨a, c, hm⟩ := (Mem.start (r := readerR b r) h).openR; have HM := Hd hm; have HLL := Hd hl; obtain ⟨l, e0⟩ := r; dsimp only at HM HLL; clear h hl hm; dsimp only at hk ⊢; obtain ⟨n, hn⟩ : ∃ n, (takeL l).1 = n := ⟨_, rfl⟩; obtain ⟨k, hkk⟩ : ∃ k, (takeL l).2 = k := ⟨_, rfl⟩; have HK := Hd (show (takeL l).1 = n ∧ (takeL l).2 = k from ⟨hn, hkk⟩); rw [hn, hkk] at hk; clear hn hkk; by_cases g1 : 0 < k
 · have g2 : ¬ (n : Int) ≤ g := fun h => hk ⟨g1, h⟩
   clear hk; go_enter Tryz.func297, Tryz.ntmps297
   have fM := HM.out.fa; go_wp2_with fail; all_goals clear fM
   obtain ⟨Ahb, hb⟩ := HM.out.get (r := readR (.slice a l.length c) l) pk; refine (taken_any w _ l HLL.out hb.1).mono ?_; rintro e w' ⟨rfl, hwq⟩; rw [hwq, HK.out.1, HK.out.2]; clear hwq w' hb; have fM := HM.out.fa; go_wp2_with fail; all_goals clear fM
   refine (wmust_any w _).mono ?_; rintro e w' ⟨rfl, hwq⟩; rw [hwq]; clear hwq w'; rw [decide_eq_false (show ¬ (n : Int) ≤ g by omega)]; simp only [Bool.false_eq_true, if_false, brokenE]; go_wp2_with fail; exact ⟨rfl, rfl, rfl⟩
 · clear hk
   go_enter Tryz.func297, Tryz.ntmps297
   have fM := HM.out.fa; go_wp2_with fail; all_goals clear fM
   obtain ⟨Ahb, hb⟩ := HM.out.get (r := readR (.slice a l.length c) l) pk; refine (taken_any w _ l HLL.out hb.1).mono ?_; rintro e w' ⟨rfl, hwq⟩; rw [hwq, HK.out.1, HK.out.2]; clear hwq w' hb; have fM := HM.out.fa; go_wp2_with fail; all_goals clear fM
   refine (wmust_any w _).mono ?_; rintro e w' ⟨rfl, hwq⟩; rw [hwq]; clear hwq w'; simp only [Bool.false_eq_true, if_false, brokenE]; go_wp2_with fail; exact ⟨rfl, rfl, rfl⟩
theorem assert_broken (w : World) : (Instr.typeAssert (.iface 342 (.agg #[])) 20 342 true).run Tryz.prog w = .ok (.tuple #[.agg #[], .bool true]) w := by kernel_rfl
theorem Mem.leaves {F : Nat → Prop} {w0 w' : World} {L : List Res} {P : Program} {fn : Func} {tmps : Array Value} {R : Ending → World → Prop} {ds : List Deferred} {u : FrameMode} (h : Mem F w0 w' L) (k : ∀ w, Mem F w0 w L → Leaves P fn tmps R ds u w) : Leaves P fn tmps R ds u w' := k _ h
theorem try1_none (w : World) (kr ke : Nat) :
 CallsD Tryz.prog 298 #[.pointer (some ⟨kr, 0, none⟩), .pointer (some ⟨ke, 0, none⟩)] .returning w fun e u' w' => e = .returned (.tuple #[]) ∧ u' = .returning ∧ w' = w := by
 refine callsD_of_wpS Tryz.func298 rfl fun c₀ cs hu => ?_
 simp only [Tryz.ntmps298, List.size_toArray, List.length_cons, List.length_nil, Nat.reduceAdd, Nat.reduceSub, Array.replicate_succ, Array.replicate_zero, List.push_toArray, List.append_toArray, List.nil_append, List.cons_append]; apply wpS_seq
 apply wpS_region
 simp [wpOpsS, go_sem, recoverD, hu, Exit.thenS]; refine wpS_of_wp ?_; go_wp2_with fail; cases c₀
 simp_all [bodyPostS, results, Tryz.results298]
theorem try1_broken (w : World) (kr ke b : Nat) (v : Value) (e0 z : Int) (older : List PanicEntry) (he : Box w ke 24 [.int .i64 z]) (hr : Box w kr 308 [.pointer (some ⟨b, 0, none⟩)]) (hb : Box w b 327 [v, .int .i64 e0, .bool true])
 (n1 : ke ≠ kr) (n2 : ke ≠ b) (n3 : kr ≠ b) :
 CallsD Tryz.prog 298 #[.pointer (some ⟨kr, 0, none⟩), .pointer (some ⟨ke, 0, none⟩)] (.panicking ({ v := .iface 342 (.agg #[]), recovered := false } :: older)) w fun e u' w' =>
  e = .returned (.tuple #[]) ∧ u' = .panicking ({ v := .iface 342 (.agg #[]), recovered := true } :: older) ∧ w' = (((w.setCell ⟨b, 0, none⟩ (.slice none 0 0)).setCell ⟨b, 1, none⟩ (.int .i64 120)).setCell ⟨ke, 0, none⟩ (.int .i64 120)).alloc (.cells [].toArray 342) := by
 refine callsD_of_wpS Tryz.func298 rfl fun c₀ cs hu => ?_
 simp only [Tryz.ntmps298, List.size_toArray, List.length_cons, List.length_nil, Nat.reduceAdd, Nat.reduceSub, Array.replicate_succ, Array.replicate_zero, List.push_toArray, List.append_toArray, List.nil_append, List.cons_append]; apply wpS_seq
 apply wpS_region
 simp [wpOpsS, go_sem, recoverD, hu, Exit.thenS]; refine wpS_of_wp ?_; obtain ⟨f1, z1⟩ := he.reads; obtain ⟨f2, z2⟩ := hr.reads; obtain ⟨f3, z3⟩ := hb.reads; have l1 := he.lt; have l2 := hr.lt; have l3 := hb.lt; have d1 : ¬ ke = kr := n1; have d2 : ¬ ke = b := n2; have d3 : ¬ kr = b := n3; have d4 : ¬ kr = ke := fun h => n1 h.symm
 have d5 : ¬ b = ke := fun h => n2 h.symm
 have d6 : ¬ b = kr := fun h => n3 h.symm
 have ha := assert_broken; clear he hr hb n1 n2 n3; go_wp2_with fail; refine ⟨rfl, _, rfl, .tuple #[], ?_, rfl, rfl, rfl⟩; simp [results, Tryz.results298]
theorem try_err {A : Nat → Prop} (w : World) (b : Nat) (r : Rdr) (X : Res) (f : Value) (hr : r.e ≠ 0) (h : SepL [readerR b r, X] A w) :
 Calls Tryz.prog 280 #[.pointer (some ⟨b, 0, none⟩), f] w fun e w' => e = .returned (.int .i64 r.e) ∧ Upd A w w' (listR [readerR b r, X]) := by
 have hr' : (r.e == 0) = false := by simpa using hr
 clear hr; have HM := Hd (Mem.start (F := A) (r := listR [readerR b r, X]) h)
 have HBL := Hd (show b < w.heap.size from by
  obtain ⟨B, C, ⟨v, D, E, h1, h2, h3, h4⟩, -, -, h5⟩ := h; exact h1.2.lt)
 clear h; go_enter_defers Tryz.func280, Tryz.ntmps280
 replace HM := Hd HM.out.unlist; simp only [List.cons_append, List.nil_append] at HM; obtain ⟨a, c, hm⟩ := HM.out.openR; replace HM := Hd hm; obtain ⟨l, e0⟩ := r; dsimp only at HM; dsimp only at hr' ⊢; have fM := HM.out.fa; go_wp2_with fail; all_goals clear fM
 refine nxt HM fun w1 M => ?_
 replace HM := M; clear M; obtain ⟨Ahb, hb⟩ := HM.out.get (r := cellsR (w.heap.size + 1) 24 [.int .i64 e0]) pk; have hc := hb.2.reads.1; refine ⟨.int .i64 e0, by simp [results, Tryz.results280, go_sem, hc], rfl, ?_⟩; clear hb hc; exact (Mem.list' (L1 := [readerR b ⟨l, e0⟩, X]) (L := []) (Mem.shutR (Mem.sub HM.out (by repeat first | exact Sub.nil | refine Sub.cons (by with_reducible repeat first | exact ph | apply pt) ?_)))).upd
theorem try_any {A : Nat → Prop} (w : World) (b f : Nat) (caps : Array Value) (r r' : Rdr) (X X' : Res) (d : Bool) (hr : r.e = 0) (henter : ∀ args w, (callFunc f args).run Tryz.prog w = .ok (.enter f args) w) (h : SepL [readerR b r, X] A w)
 (hf : ∀ B w1, SepL [readerR b r, X] B w1 → Calls Tryz.prog f caps w1 fun e w' => e = (if d then .returned (.tuple #[]) else brokenE) ∧ Upd B w1 w' (listR [readerR b r', X'])) :
 Calls Tryz.prog 280 #[.pointer (some ⟨b, 0, none⟩), .func (.func f) #[] caps] w fun e w' => e = .returned (.int .i64 (if d then 0 else 120)) ∧ Upd A w w' (listR [readerR b (if d then r' else Rdr.bad), X']) := by
 have hmf : ∀ (fn : Fn) (first cap : Array Value) (w : World), (Instr.makeFunc fn first cap).run Tryz.prog w = .ok (.func fn first cap) w := fun _ _ _ _ => rfl
 have HF := Hd hf; clear hf; have HM := Hd (Mem.start (F := A) (r := listR [readerR b r, X]) h)
 have HBL := Hd (show b < w.heap.size from by
  obtain ⟨B, C, ⟨v, D, E, h1, h2, h3, h4⟩, -, -, h5⟩ := h; exact h1.2.lt)
 clear h; go_enter_defers Tryz.func280, Tryz.ntmps280
 replace HM := Hd HM.out.unlist; simp only [List.cons_append, List.nil_append] at HM; obtain ⟨a, c, hm⟩ := HM.out.openR; replace HM := Hd hm; obtain ⟨l, e0⟩ := r; dsimp only at HM; dsimp only at hr HF; subst hr; have fM := HM.out.fa; go_wp2_with fail; all_goals clear fM
 refine nxt HM fun w1 M => ?_
 replace HM := M; clear M; have hs := Mem.shutR (L := [X, cellsR (w.heap.size + 1) 24 [.int .i64 0], cellsR w.heap.size 308 [.pointer (some ⟨b, 0, none⟩)]]) (Mem.sub HM.out (by repeat first | exact Sub.nil | refine Sub.cons (by with_reducible repeat first | exact ph | apply pt) ?_)); replace HM := Hd (Mem.list' (L1 := [readerR b ⟨l, 0⟩, X]) hs); clear hs; obtain ⟨B, hB, hS⟩ := HM.out.step; refine (HF.out B w1 hB).mono ?_; rintro e w2 ⟨rfl, hU⟩; replace HM := Hd (hS _ _ hU); clear hU hS hB B; cases d
 · simp only [Bool.false_eq_true, if_false, brokenE]
   replace HM := Hd HM.out.unlist; simp only [List.cons_append, List.nil_append] at HM; obtain ⟨a2, c2, hm2⟩ := HM.out.openR; replace HM := Hd hm2; clear hm2; obtain ⟨Ahe, he⟩ := HM.out.get (r := cellsR (w.heap.size + 1) 24 [.int .i64 0]) pk; obtain ⟨Ahk, hk⟩ := HM.out.get (r := cellsR w.heap.size 308 [.pointer (some ⟨b, 0, none⟩)]) pk; obtain ⟨Ahx, hx⟩ := HM.out.get (r := cellsR b 327 [.slice a2 r'.b.length c2, .int .i64 r'.e, .bool true]) pk; have hbl := HBL.out; refine leaves_cons (f := 298) (args := #[.pointer (some ⟨w.heap.size, 0, none⟩), .pointer (some ⟨w.heap.size + 1, 0, none⟩)]) (by intro h; cases h) (enters_of Tryz.func298 (by kernel_rfl) rfl _ _) ?_; refine (try1_broken w2 w.heap.size (w.heap.size + 1) b _ _ _ [] he.2 hk.2 hx.2 (by omega) (by omega) (by omega)).mono ?_; clear he hk hx hbl; clear Ahe Ahk Ahx; rintro e u wq ⟨rfl, rfl, rfl⟩; show Leaves _ _ _ _ [] .returning _
   apply Mem.leaves
   · exact HM.out.to
   intro w7 M; replace HM := Hd M; clear M; obtain ⟨Ahb, hb⟩ := HM.out.get (r := cellsR (w.heap.size + 1) 24 [.int .i64 120]) pk; have hc := hb.2.reads.1; refine ⟨.int .i64 120, by simp [results, Tryz.results280, go_sem, hc], rfl, ?_⟩; clear hb hc; have h2 := (HM.out.pick (r := readR (.slice a2 r'.b.length c2) r'.b) pk).turn (r' := readR (.slice none 0 0) []) fun A hA => ⟨SlV.nil, hA.2⟩
   exact (Mem.list' (L1 := [readerR b Rdr.bad, X']) (L := []) (Mem.shutR (l := []) (e := 120) (v := .slice none 0 0) (Mem.sub h2 (by repeat first | exact Sub.nil | refine Sub.cons (by with_reducible repeat first | exact ph | apply pt) ?_)))).upd
 · simp only [if_true]
   have fM := HM.out.fa; go_wp2_with fail; all_goals clear fM
   refine nxt HM fun w3 M => ?_
   replace HM := M; clear M; obtain ⟨Ahb, hb⟩ := HM.out.get (r := cellsR (w.heap.size + 1) 24 [.int .i64 0]) pk; have hc := hb.2.reads.1; refine leaves_cons (f := 298) (args := #[.pointer (some ⟨w.heap.size, 0, none⟩), .pointer (some ⟨w.heap.size + 1, 0, none⟩)]) (by intro h; cases h) (enters_of Tryz.func298 (by kernel_rfl) rfl _ _) ?_; refine (try1_none w3 _ _).mono ?_; rintro r2 u wq ⟨rfl, rfl, rfl⟩; refine ⟨.int .i64 0, by simp [results, Tryz.results280, go_sem, hc], rfl, ?_⟩; clear hb hc; exact (HM.out.pick (r := listR [readerR b r', X']) pk).upd
def numX (kr kg kn kl b : Nat) (g n : Int) : Res := listR [cellsR kr 308 [.pointer (some ⟨b, 0, none⟩)], cellsR kg 2 [.int .i64 g], cellsR kn 2 [.int .i64 n], cellsR kl 4 [.bool (decide (g < 0))]]
theorem Mem.shutX {F : Nat → Prop} {w0 w : World} {L : List Res} {kr kg kn kl b : Nat} {g n : Int} (h : Mem F w0 w (cellsR kr 308 [.pointer (some ⟨b, 0, none⟩)] :: cellsR kg 2 [.int .i64 g] :: cellsR kn 2 [.int .i64 n] :: cellsR kl 4 [.bool (decide (g < 0))] :: L)) : Mem F w0 w (numX kr kg kn kl b g n :: L) :=
 Mem.list' (L1 := [cellsR kr 308 [.pointer (some ⟨b, 0, none⟩)], cellsR kg 2 [.int .i64 g], cellsR kn 2 [.int .i64 n], cellsR kl 4 [.bool (decide (g < 0))]]) h
theorem Mem.openX {F : Nat → Prop} {w0 w : World} {L : List Res} {kr kg kn kl b : Nat} {g n : Int} (h : Mem F w0 w (numX kr kg kn kl b g n :: L)) : Mem F w0 w (cellsR kr 308 [.pointer (some ⟨b, 0, none⟩)] :: cellsR kg 2 [.int .i64 g] :: cellsR kn 2 [.int .i64 n] :: cellsR kl 4 [.bool (decide (g < 0))] :: L) :=
 Mem.unlist (L1 := [cellsR kr 308 [.pointer (some ⟨b, 0, none⟩)], cellsR kg 2 [.int .i64 g], cellsR kn 2 [.int .i64 n], cellsR kl 4 [.bool (decide (g < 0))]]) h
theorem number1_low {B : Nat → Prop} (w : World) (kr kg kn kl b : Nat) (g : Int) (r : Rdr) (hl : r.b.length ≤ 70368744177664) (hg : g < 0) (h : SepL [readerR b r, numX kr kg kn kl b g 0] B w) :
 Calls Tryz.prog 296 #[.pointer (some ⟨kl, 0, none⟩), .pointer (some ⟨kr, 0, none⟩), .pointer (some ⟨kg, 0, none⟩), .pointer (some ⟨kn, 0, none⟩)] w fun e w' => e = (if true = true then .returned (.tuple #[]) else brokenE) ∧ Upd B w w' (listR [readerR b r, numX kr kg kn kl b g 0]) := by
 have HLL := Hd hl; have HM := Hd (Mem.start (F := B) (r := listR [readerR b r, numX kr kg kn kl b g 0]) h).unlist; simp only [List.cons_append, List.nil_append] at HM; replace HM := Hd (HM.out.pick (r := numX kr kg kn kl b g 0) pk).openX; clear h hl; go_enter Tryz.func296, Tryz.ntmps296
 have fM := HM.out.fa; go_wp2_with fail; all_goals clear fM
 go_end0
 refine ⟨rfl, ?_⟩; exact (Mem.list' (L1 := [readerR b r, numX kr kg kn kl b g 0]) (L := []) (Mem.sub (Mem.shutX (kr := kr) (kg := kg) (kn := kn) (kl := kl) (b := b) (g := g) (n := 0) (L := [readerR b r]) (Mem.sub HM.out (by repeat first | exact Sub.nil | refine Sub.cons (by with_reducible repeat first | exact ph | apply pt) ?_))) (by repeat first | exact Sub.nil | refine Sub.cons (by with_reducible repeat first | exact ph | apply pt) ?_))).upd
theorem number1_ok {B : Nat → Prop} (w : World) (kr kg kn kl b : Nat) (g : Int) (n k : Nat) (r : Rdr) (hl : r.b.length ≤ 70368744177664) (hg : ¬ g < 0) (hk : takeL r.b = (n, (k : Int))) (hk0 : 0 < k) (hn : (n : Int) ≤ g) (h : SepL [readerR b r, numX kr kg kn kl b g 0] B w) :
 Calls Tryz.prog 296 #[.pointer (some ⟨kl, 0, none⟩), .pointer (some ⟨kr, 0, none⟩), .pointer (some ⟨kg, 0, none⟩), .pointer (some ⟨kn, 0, none⟩)] w fun e w' => e = (if true = true then .returned (.tuple #[]) else brokenE) ∧ Upd B w w' (listR [readerR b ⟨r.b.drop k, r.e⟩, numX kr kg kn kl b g n]) := by
 have HK := Hd (show _ ∧ _ ∧ _ from ⟨hk, hk0, hn⟩); clear hk hk0 hn; have HLL := Hd hl; have HM := Hd (Mem.start (F := B) (r := listR [readerR b r, numX kr kg kn kl b g 0]) h).unlist; simp only [List.cons_append, List.nil_append] at HM; replace HM := Hd (HM.out.pick (r := numX kr kg kn kl b g 0) pk).openX; clear h hl; go_enter Tryz.func296, Tryz.ntmps296
 have fM := HM.out.fa; go_wp2_with fail; all_goals clear fM
 obtain ⟨C, hC, hS⟩ := (HM.out.pick (r := readerR b r) pk).step; refine (rnum_ok w b n g k r HLL.out HK.out.1 HK.out.2.1 HK.out.2.2 hC).mono ?_; rintro e w2 ⟨rfl, hU⟩; replace HM := Hd (hS _ _ hU); clear hU hS hC C; have fM := HM.out.fa; go_wp2_with fail; all_goals clear fM
 go_end0
 refine ⟨rfl, ?_⟩; refine nxt HM fun w3 M => ?_
 replace HM := M; clear M; exact (Mem.list' (L1 := [readerR b ⟨r.b.drop k, r.e⟩, numX kr kg kn kl b g n]) (L := []) (Mem.sub (Mem.shutX (kr := kr) (kg := kg) (kn := kn) (kl := kl) (b := b) (g := g) (n := n) (L := [readerR b ⟨r.b.drop k, r.e⟩]) (Mem.sub HM.out (by repeat first | exact Sub.nil | refine Sub.cons (by with_reducible repeat first | exact ph | apply pt) ?_))) (by repeat first | exact Sub.nil | refine Sub.cons (by with_reducible repeat first | exact ph | apply pt) ?_))).upd
theorem number1_bad {B : Nat → Prop} (w : World) (kr kg kn kl b : Nat) (g : Int) (r : Rdr) (hl : r.b.length ≤ 70368744177664) (hg : ¬ g < 0) (hk : ¬ (0 < (takeL r.b).2 ∧ ((takeL r.b).1 : Int) ≤ g)) (h : SepL [readerR b r, numX kr kg kn kl b g 0] B w) :
 Calls Tryz.prog 296 #[.pointer (some ⟨kl, 0, none⟩), .pointer (some ⟨kr, 0, none⟩), .pointer (some ⟨kg, 0, none⟩), .pointer (some ⟨kn, 0, none⟩)] w fun e w' => e = (if false = true then .returned (.tuple #[]) else brokenE) ∧ Upd B w w' (listR [readerR b r, numX kr kg kn kl b g 0]) := by
 have HK := Hd hk; clear hk; have HLL := Hd hl; have HM := Hd (Mem.start (F := B) (r := listR [readerR b r, numX kr kg kn kl b g 0]) h).unlist; simp only [List.cons_append, List.nil_append] at HM; replace HM := Hd (HM.out.pick (r := numX kr kg kn kl b g 0) pk).openX; clear h hl; go_enter Tryz.func296, Tryz.ntmps296
 have fM := HM.out.fa; go_wp2_with fail; all_goals clear fM
 obtain ⟨AhC, hC⟩ := HM.out.get (r := readerR b r) pk; refine (rnum_bad w b g r HLL.out HK.out hC).mono ?_; rintro e w' ⟨rfl, hwq⟩; rw [hwq]; clear hwq w' hC; simp only [brokenE]; go_wp2_with fail; refine ⟨rfl, rfl, ?_⟩; exact (Mem.list' (L1 := [readerR b r, numX kr kg kn kl b g 0]) (L := []) (Mem.sub (Mem.shutX (kr := kr) (kg := kg) (kn := kn) (kl := kl) (b := b) (g := g) (n := 0) (L := [readerR b r]) (Mem.sub HM.out (by repeat first | exact Sub.nil | refine Sub.cons (by with_reducible repeat first | exact ph | apply pt) ?_))) (by repeat first | exact Sub.nil | refine Sub.cons (by with_reducible repeat first | exact ph | apply pt) ?_))).upd
theorem rnumber_any {A : Nat → Prop} (w : World) (b : Nat) (g : Int) (r : Rdr) (hl : r.b.length ≤ 70368744177664) (h : (readerR b r).p A w) :
 Calls Tryz.prog 279 #[.pointer (some ⟨b, 0, none⟩), .int .i64 g] w fun e w' => e = .returned (.tuple #[.int .i64 ((r.num g).2.1 : Int), .int .i64 (r.num g).2.2]) ∧ Upd A w w' (readerR b (r.num g).1) := by
 have hmf : ∀ (fn : Fn) (first cap : Array Value) (w : World), (Instr.makeFunc fn first cap).run Tryz.prog w = .ok (.func fn first cap) w := fun _ _ _ _ => rfl
 have HM := Hd (Mem.start (r := readerR b r) h); have HLL := Hd hl; clear h hl; go_enter Tryz.func279, Tryz.ntmps279
 have fM := HM.out.fa; go_wp2_with fail; all_goals clear fM
 refine nxt HM fun w1 M => ?_
 replace HM := M; clear M; obtain ⟨kr, hkr⟩ : ∃ k, w.heap.size = k := ⟨_, rfl⟩; obtain ⟨kg, hkg⟩ : ∃ k, kr + 1 = k := ⟨_, rfl⟩; obtain ⟨kn, hkn⟩ : ∃ k, kg + 1 = k := ⟨_, rfl⟩; obtain ⟨kl, hkl⟩ : ∃ k, kn + 1 = k := ⟨_, rfl⟩; rw [hkr, hkg, hkn, hkl] at HM ⊢; clear hkr hkg hkn hkl; have hen := enters_of (P := Tryz.prog) Tryz.func296 (by kernel_rfl) rfl; replace HM := Hd (Mem.list' (L1 := [readerR b r, numX kr kg kn kl b g 0]) (L := []) (Mem.sub (Mem.shutX (kr := kr) (kg := kg) (kn := kn) (kl := kl) (b := b) (g := g) (n := 0) (L := [readerR b r]) (Mem.sub HM.out (by repeat first | exact Sub.nil | refine Sub.cons (by with_reducible repeat first | exact ph | apply pt) ?_))) (by repeat first | exact Sub.nil | refine Sub.cons (by with_reducible repeat first | exact ph | apply pt) ?_))); obtain ⟨C, hC, hS⟩ := HM.out.step; by_cases hr : r.e = 0
 case neg =>
  have hq : r.num g = (r, 0, r.e) := by unfold Rdr.num; rw [if_pos hr]
  have HQ := Hd hq; have HR := Hd hr; clear hq hr; refine (try_err w1 b r _ _ HR.out hC).mono ?_; rintro e w2 ⟨rfl, hU⟩; replace HM := Hd (hS _ _ hU).unlist; simp only [List.cons_append, List.nil_append] at HM; replace HM := Hd (HM.out.pick (r := numX kr kg kn kl b g 0) pk).openX; clear hU hS hC C hen hmf; have hr' : (r.e == 0) = false := by simpa using HR.out
  have fM := HM.out.fa; go_wp2_with fail; all_goals clear fM
  refine nxt HM fun w3 M => ?_
  replace HM := M; clear M; obtain ⟨Ahb, hb⟩ := HM.out.get (r := cellsR kn 2 [.int .i64 0]) pk; have hc := hb.2.reads.1; rw [HQ.out]; refine bodyPost_ret (v := .tuple #[.int .i64 0, .int .i64 _]) (by simp [results, Tryz.results279, go_sem, hc]; try rfl) rfl ⟨rfl, ?_⟩; exact (HM.out.pick (r := readerR b r) pk).upd
 by_cases hg : g < 0
 · have hq : r.num g = (r, 0, 2) := by unfold Rdr.num; rw [if_neg (by simpa using hr), if_pos hg]
   have HQ := Hd hq; clear hq; refine (try_any w1 b _ _ r r _ _ true hr hen hC fun B w2 h2 => number1_low w2 kr kg kn kl b g r HLL.out hg h2).mono ?_; rintro e w2 ⟨rfl, hU⟩; simp only [if_true] at hU ⊢; replace HM := Hd (hS _ _ hU).unlist; simp only [List.cons_append, List.nil_append] at HM; replace HM := Hd (HM.out.pick (r := numX kr kg kn kl b g 0) pk).openX; clear hU hS hC C hen hmf; have hg' : decide (g < 0) = true := decide_eq_true hg; clear hr; have fM := HM.out.fa; go_wp2_with fail; all_goals clear fM
   refine nxt HM fun w3 M => ?_
   replace HM := M; clear M; obtain ⟨Ahb, hb⟩ := HM.out.get (r := cellsR kn 2 [.int .i64 0]) pk; have hc := hb.2.reads.1; rw [HQ.out]; refine bodyPost_ret (v := .tuple #[.int .i64 0, .int .i64 _]) (by simp [results, Tryz.results279, go_sem, hc]; try rfl) rfl ⟨rfl, ?_⟩; exact (HM.out.pick (r := readerR b r) pk).upd
 by_cases hk : 0 < (takeL r.b).2 ∧ ((takeL r.b).1 : Int) ≤ g
 · obtain ⟨k, hkk⟩ : ∃ k : Nat, (takeL r.b).2 = k := ⟨(takeL r.b).2.toNat, by omega⟩
   obtain ⟨n, hn⟩ : ∃ n, (takeL r.b).1 = n := ⟨_, rfl⟩; have ht : takeL r.b = (n, (k : Int)) := by rw [← hn, ← hkk]
   rw [hkk, hn] at hk
   have hq : r.num g = (⟨r.b.drop k, r.e⟩, n, 0) := by
    unfold Rdr.num; rw [if_neg (by simpa using hr), if_neg hg, ht, if_pos hk, hr]; rfl
   have HQ := Hd hq; clear hq hkk hn; refine (try_any w1 b _ _ r ⟨r.b.drop k, r.e⟩ _ _ true hr hen hC fun B w2 h2 => number1_ok w2 kr kg kn kl b g n k r HLL.out hg ht (by omega) hk.2 h2).mono ?_; rintro e w2 ⟨rfl, hU⟩; simp only [if_true] at hU ⊢; replace HM := Hd (hS _ _ hU).unlist; simp only [List.cons_append, List.nil_append] at HM; replace HM := Hd (HM.out.pick (r := numX kr kg kn kl b g n) pk).openX; clear hU hS hC C hen hmf; clear hr hk ht; have hg' : decide (g < 0) = false := decide_eq_false hg; have fM := HM.out.fa; go_wp2_with fail; all_goals clear fM
   refine nxt HM fun w3 M => ?_
   replace HM := M; clear M; obtain ⟨Ahb, hb⟩ := HM.out.get (r := cellsR kn 2 [.int .i64 n]) pk; have hc := hb.2.reads.1; rw [HQ.out]; refine bodyPost_ret (v := .tuple #[.int .i64 n, .int .i64 _]) (by simp [results, Tryz.results279, go_sem, hc]; try rfl) rfl ⟨rfl, ?_⟩; exact (HM.out.pick (r := readerR b ⟨r.b.drop k, r.e⟩) pk).upd
 · have hq : r.num g = (Rdr.bad, 0, 120) := by unfold Rdr.num; rw [if_neg (by simpa using hr), if_neg hg, if_neg hk]
   have HQ := Hd hq; clear hq; refine (try_any w1 b _ _ r r _ _ false hr hen hC fun B w2 h2 => number1_bad w2 kr kg kn kl b g r HLL.out hg hk h2).mono ?_; rintro e w2 ⟨rfl, hU⟩; simp only [Bool.false_eq_true, if_false] at hU ⊢; replace HM := Hd (hS _ _ hU).unlist; simp only [List.cons_append, List.nil_append] at HM; replace HM := Hd (HM.out.pick (r := numX kr kg kn kl b g 0) pk).openX; clear hU hS hC C hen hmf; clear hr hk; have fM := HM.out.fa; go_wp2_with fail; all_goals clear fM
   refine nxt HM fun w3 M => ?_
   replace HM := M; clear M; obtain ⟨Ahb, hb⟩ := HM.out.get (r := cellsR kn 2 [.int .i64 0]) pk; have hc := hb.2.reads.1; rw [HQ.out]; refine bodyPost_ret (v := .tuple #[.int .i64 0, .int .i64 _]) (by simp [results, Tryz.results279, go_sem, hc]; try rfl) rfl ⟨rfl, ?_⟩; exact (HM.out.pick (r := readerR b Rdr.bad) pk).upd

end Go.Proofs.YtoadjbgpfihoiaaGreatDoor
