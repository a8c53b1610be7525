/- The walk of RingCopies: its function returns true, and of what was there nothing turns. Conditions: its arguments lie as 'Acts' and 'ActV' say. -/
import Derived.Test.YtocjnieehogcbaaCopyB
import Derived.Test.YtocjnieehogcbaaRSame
set_option linter.unusedVariables false
set_option maxHeartbeats 400000
namespace Go.Proofs.Ytocjnieehogcbaa
open Go.RowKit

theorem acts_two {A : Nat → Prop} {w : World} {b : Nat} {t : TypeId} {x y : Ac} {vx vy : Value} (hb : Box w b t [.int .i64 x.what, .bool x.item.side, .int .i64 x.item.key, vx, .int .i64 y.what, .bool y.item.side, .int .i64 y.item.key, vy])
    (h1 : Bytes w A vx x.item.bytes) (h2 : Bytes w A vy y.item.bytes) (hA : A b) : Acts w A (.slice (some ⟨b, 0, none⟩) 2 2) [x, y] := by
  have hr := hb.reads.1
  refine .inr ⟨b, 0, 2, rfl, Nat.le_refl _, hA, fun i hi => ?_⟩
  match i, hi with
  | 0, _ => exact ⟨hr 0, hr 1, hr 2, vx, hr 3, h1⟩
  | 1, _ => exact ⟨hr 4, hr 5, hr 6, vy, hr 7, h2⟩
theorem acts_one {A : Nat → Prop} {w : World} {b : Nat} {t : TypeId} {x : Ac} {vx : Value} (hb : Box w b t [.int .i64 x.what, .bool x.item.side, .int .i64 x.item.key, vx])
    (h1 : Bytes w A vx x.item.bytes) (hA : A b) : Acts w A (.slice (some ⟨b, 0, none⟩) 1 1) [x] := by
  have hr := hb.reads.1
  refine .inr ⟨b, 0, 1, rfl, Nat.le_refl _, hA, fun i hi => ?_⟩
  match i, hi with
  | 0, _ => exact ⟨hr 0, hr 1, hr 2, vx, hr 3, h1⟩

theorem copies_few {A : Nat → Prop} (w : World) (v vx vy : Value) (l : List Ac) (x y : Ac) (h : Acts w A v l) (hx : ActV w A vx x) (hy : ActV w A vy y) (hn : l.length ≤ 9223372036854775807) (hb : ∀ x ∈ l, x.item.bytes.length ≤ 9223372036854775807) (hf : fewOf l 30 = false) :
    Calls Try.prog 7 #[v, vx, vy] w fun e w' => e = .returned (.bool true) ∧ Ext w w' := by
  have HA := Lib.hid h
  have HB := Lib.hid hb
  obtain ⟨a, c, rfl, -⟩ := h.at
  obtain ⟨bx, rfl, hbx⟩ := hx
  obtain ⟨by', rfl, hby⟩ := hy
  obtain ⟨ax, cx, rfl⟩ := hbx.len
  obtain ⟨ay, cy, rfl⟩ := hby.len
  clear h hb hbx hby
  go_enter Try.func7, Try.ntmps7
  go_wp2_with fail
  have bz0 := ((Box.new w 42 [.int .i64 x.what, .bool x.item.side, .int .i64 x.item.key, .slice ax x.item.bytes.length cx]).alloc (Obj.cells #[.int .i64 y.what, .bool y.item.side, .int .i64 y.item.key, .slice ay y.item.bytes.length cy] 42))
  have bz1 := (Box.new (w.alloc (Obj.cells #[.int .i64 x.what, .bool x.item.side, .int .i64 x.item.key, .slice ax x.item.bytes.length cx] 42)) 42 [.int .i64 y.what, .bool y.item.side, .int .i64 y.item.key, .slice ay y.item.bytes.length cy])
  have ez : Ext w ((w.alloc (Obj.cells #[.int .i64 x.what, .bool x.item.side, .int .i64 x.item.key, .slice ax x.item.bytes.length cx] 42)).alloc (Obj.cells #[.int .i64 y.what, .bool y.item.side, .int .i64 y.item.key, .slice ay y.item.bytes.length cy] 42)) := (((Keeps.refl NoB w).alloc _).alloc _)
  have sz : ((w.alloc (Obj.cells #[.int .i64 x.what, .bool x.item.side, .int .i64 x.item.key, .slice ax x.item.bytes.length cx] 42)).alloc (Obj.cells #[.int .i64 y.what, .bool y.item.side, .int .i64 y.item.key, .slice ay y.item.bytes.length cy] 42)).heap.size = w.heap.size + 2 := by simp
  simp only [World.size_alloc] at bz1
  generalize ((w.alloc (Obj.cells #[.int .i64 x.what, .bool x.item.side, .int .i64 x.item.key, .slice ax x.item.bytes.length cx] 42)).alloc (Obj.cells #[.int .i64 y.what, .bool y.item.side, .int .i64 y.item.key, .slice ay y.item.bytes.length cy] 42)) = w0 at bz0 bz1 ez sz ⊢
  have Sz := Lib.hid sz
  clear sz
  have HE := Lib.hid ez
  clear ez bz0 bz1
  refine (few_any _ _ l 30 (HA.out.ext HE.out) hn HB.out).mono ?_
  rintro e w' ⟨rfl, rfl⟩
  go_wp2_with fail
  refine (works_any _).mono ?_
  rintro e w' ⟨rfl, hE⟩
  have HE2 := Lib.hid (HE.out.ext hE)
  clear hE
  go_wp2_with fail
  go_ret
  exact ⟨rfl, HE2.out⟩

theorem copies_few2 {A : Nat → Prop} (w : World) (v vx vy : Value) (l : List Ac) (x y : Ac) (h : Acts w A v l) (hx : ActV w A vx x) (hy : ActV w A vy y) (hn : l.length ≤ 9223372036854775807) (hb : ∀ x ∈ l, x.item.bytes.length ≤ 9223372036854775807)
    (hxl : x.item.bytes.length ≤ 9223372036854775807) (hyl : y.item.bytes.length ≤ 9223372036854775807) (hf : fewOf l 30 = true) (hf2 : fewOf [x, y] 2 = false) (hA : ∀ k, A k → k < w.heap.size) :
    Calls Try.prog 7 #[v, vx, vy] w fun e w' => e = .returned (.bool true) ∧ Ext w w' := by
  have HAA := Lib.hid hA
  have HV := Lib.hid h
  have HB := Lib.hid hb
  obtain ⟨a, c, rfl, -⟩ := h.at
  obtain ⟨bx, rfl, hbx⟩ := hx
  obtain ⟨by', rfl, hby⟩ := hy
  have HX := Lib.hid hbx
  have HY := Lib.hid hby
  have HXL := Lib.hid hxl
  have HYL := Lib.hid hyl
  obtain ⟨ax, cx, rfl⟩ := hbx.len
  obtain ⟨ay, cy, rfl⟩ := hby.len
  clear h hb hbx hby hA hxl hyl
  go_enter Try.func7, Try.ntmps7
  go_wp2_with fail
  have bz0 := ((Box.new w 42 [.int .i64 x.what, .bool x.item.side, .int .i64 x.item.key, .slice ax x.item.bytes.length cx]).alloc (Obj.cells #[.int .i64 y.what, .bool y.item.side, .int .i64 y.item.key, .slice ay y.item.bytes.length cy] 42))
  have bz1 := (Box.new (w.alloc (Obj.cells #[.int .i64 x.what, .bool x.item.side, .int .i64 x.item.key, .slice ax x.item.bytes.length cx] 42)) 42 [.int .i64 y.what, .bool y.item.side, .int .i64 y.item.key, .slice ay y.item.bytes.length cy])
  have ez : Ext w ((w.alloc (Obj.cells #[.int .i64 x.what, .bool x.item.side, .int .i64 x.item.key, .slice ax x.item.bytes.length cx] 42)).alloc (Obj.cells #[.int .i64 y.what, .bool y.item.side, .int .i64 y.item.key, .slice ay y.item.bytes.length cy] 42)) := (((Keeps.refl NoB w).alloc _).alloc _)
  have sz : ((w.alloc (Obj.cells #[.int .i64 x.what, .bool x.item.side, .int .i64 x.item.key, .slice ax x.item.bytes.length cx] 42)).alloc (Obj.cells #[.int .i64 y.what, .bool y.item.side, .int .i64 y.item.key, .slice ay y.item.bytes.length cy] 42)).heap.size = w.heap.size + 2 := by simp
  simp only [World.size_alloc] at bz1
  generalize ((w.alloc (Obj.cells #[.int .i64 x.what, .bool x.item.side, .int .i64 x.item.key, .slice ax x.item.bytes.length cx] 42)).alloc (Obj.cells #[.int .i64 y.what, .bool y.item.side, .int .i64 y.item.key, .slice ay y.item.bytes.length cy] 42)) = w0 at bz0 bz1 ez sz ⊢
  have Sz := Lib.hid sz
  clear sz
  have HE := Lib.hid ez
  have BX := Lib.hid bz0
  have BY := Lib.hid bz1
  obtain ⟨c0, z0⟩ := bz0.reads
  obtain ⟨c1, z1⟩ := bz1.reads
  have l0 := bz0.lt
  have l1 := bz1.lt
  clear ez bz0 bz1
  refine (few_any _ _ l 30 (HV.out.ext HE.out) hn HB.out).mono ?_
  rintro e w' ⟨rfl, rfl⟩
  go_wp2_with fail
  have ek : Ext w0 (w0.alloc (Obj.cells #[.int .i64 x.what, .bool x.item.side, .int .i64 x.item.key, .slice ax x.item.bytes.length cx, .int .i64 y.what, .bool y.item.side, .int .i64 y.item.key, .slice ay y.item.bytes.length cy] 42)) := (Keeps.refl _ _).alloc _
  have bk := Box.new w0 42 [.int .i64 x.what, .bool x.item.side, .int .i64 x.item.key, .slice ax x.item.bytes.length cx, .int .i64 y.what, .bool y.item.side, .int .i64 y.item.key, .slice ay y.item.bytes.length cy]
  refine (few_any (A := fun k => A k ∨ k = w0.heap.size) _ _ [x, y] 2 (acts_two bk ((HX.out.ext (HE.out.ext ek)).mono (fun k hk => .inl hk)) ((HY.out.ext (HE.out.ext ek)).mono (fun k hk => .inl hk)) (.inr rfl)) (by simp) (by
    intro z hz
    simp only [List.mem_cons, List.not_mem_nil, or_false] at hz
    rcases hz with rfl | rfl
    · exact HXL.out
    · exact HYL.out)).mono ?_
  rintro e w' ⟨rfl, rfl⟩
  have HE3 := Lib.hid (HE.out.ext ek)
  clear ek bk
  go_wp2_with fail
  refine (works_any _).mono ?_
  rintro e w' ⟨rfl, hE⟩
  have HE2 := Lib.hid (HE3.out.ext hE)
  clear hE
  go_wp2_with fail
  go_ret
  exact ⟨rfl, HE2.out⟩

theorem Bool.eq_of_iff {a b : Bool} {p : Prop} (h1 : a = true ↔ p) (h2 : b = true ↔ p) : a = b := by
  cases a <;> cases b <;> simp_all

set_option maxRecDepth 100000 in
set_option maxHeartbeats 4000000 in
theorem copies_in {A : Nat → Prop} (w : World) (v vx vy : Value) (l : List Ac) (x y : Ac) (h : Acts w A v l) (hx : ActV w A vx x) (hy : ActV w A vy y) (hn : l.length ≤ 9223372036854775807) (hb : ∀ x ∈ l, x.item.bytes.length ≤ 9223372036854775807)
    (hxl : x.item.bytes.length ≤ 9223372036854775807) (hyl : y.item.bytes.length ≤ 9223372036854775807) (hf : fewOf l 30 = true) (hf2 : fewOf [x, y] 2 = true) (hA : ∀ k, A k → k < w.heap.size) :
    Calls Try.prog 7 #[v, vx, vy] w fun e w' => e = .returned (.bool true) ∧ Ext w w' := by
  obtain ⟨hs200, hl30⟩ := few_spec hf
  obtain ⟨hs2, -⟩ := few_spec hf2
  have hx200 := hs2 x (by simp)
  have hy200 := hs2 y (by simp)
  have HS := Lib.hid hs200
  clear hs200 hs2
  have HAA := Lib.hid hA
  have HV := Lib.hid h
  have HB := Lib.hid hb
  obtain ⟨a, c, rfl, -⟩ := h.at
  obtain ⟨bx, rfl, hbx⟩ := hx
  obtain ⟨by', rfl, hby⟩ := hy
  have HX := Lib.hid hbx
  have HY := Lib.hid hby
  have HXL := Lib.hid hxl
  have HYL := Lib.hid hyl
  obtain ⟨ax, cx, rfl⟩ := hbx.len
  obtain ⟨ay, cy, rfl⟩ := hby.len
  clear h hb hbx hby hA hxl hyl
  go_enter Try.func7, Try.ntmps7
  go_wp2_with fail
  have bz0 := ((Box.new w 42 [.int .i64 x.what, .bool x.item.side, .int .i64 x.item.key, .slice ax x.item.bytes.length cx]).alloc (Obj.cells #[.int .i64 y.what, .bool y.item.side, .int .i64 y.item.key, .slice ay y.item.bytes.length cy] 42))
  have bz1 := (Box.new (w.alloc (Obj.cells #[.int .i64 x.what, .bool x.item.side, .int .i64 x.item.key, .slice ax x.item.bytes.length cx] 42)) 42 [.int .i64 y.what, .bool y.item.side, .int .i64 y.item.key, .slice ay y.item.bytes.length cy])
  have ez : Ext w ((w.alloc (Obj.cells #[.int .i64 x.what, .bool x.item.side, .int .i64 x.item.key, .slice ax x.item.bytes.length cx] 42)).alloc (Obj.cells #[.int .i64 y.what, .bool y.item.side, .int .i64 y.item.key, .slice ay y.item.bytes.length cy] 42)) := (((Keeps.refl NoB w).alloc _).alloc _)
  have sz : ((w.alloc (Obj.cells #[.int .i64 x.what, .bool x.item.side, .int .i64 x.item.key, .slice ax x.item.bytes.length cx] 42)).alloc (Obj.cells #[.int .i64 y.what, .bool y.item.side, .int .i64 y.item.key, .slice ay y.item.bytes.length cy] 42)).heap.size = w.heap.size + 2 := by simp
  simp only [World.size_alloc] at bz1
  generalize ((w.alloc (Obj.cells #[.int .i64 x.what, .bool x.item.side, .int .i64 x.item.key, .slice ax x.item.bytes.length cx] 42)).alloc (Obj.cells #[.int .i64 y.what, .bool y.item.side, .int .i64 y.item.key, .slice ay y.item.bytes.length cy] 42)) = w0 at bz0 bz1 ez sz ⊢
  have Sz := Lib.hid sz
  clear sz
  have HE := Lib.hid ez
  have BX := Lib.hid bz0
  have BY := Lib.hid bz1
  obtain ⟨c0, z0⟩ := bz0.reads
  obtain ⟨c1, z1⟩ := bz1.reads
  have l0 := bz0.lt
  have l1 := bz1.lt
  clear ez bz0 bz1
  refine (few_any _ _ l 30 (HV.out.ext HE.out) hn HB.out).mono ?_
  rintro e w' ⟨rfl, rfl⟩
  go_wp2_with fail
  have ek : Ext w0 (w0.alloc (Obj.cells #[.int .i64 x.what, .bool x.item.side, .int .i64 x.item.key, .slice ax x.item.bytes.length cx, .int .i64 y.what, .bool y.item.side, .int .i64 y.item.key, .slice ay y.item.bytes.length cy] 42)) := (Keeps.refl _ _).alloc _
  have bk := Box.new w0 42 [.int .i64 x.what, .bool x.item.side, .int .i64 x.item.key, .slice ax x.item.bytes.length cx, .int .i64 y.what, .bool y.item.side, .int .i64 y.item.key, .slice ay y.item.bytes.length cy]
  refine (few_any (A := fun k => A k ∨ k = w0.heap.size) _ _ [x, y] 2 (acts_two bk ((HX.out.ext (HE.out.ext ek)).mono (fun k hk => .inl hk)) ((HY.out.ext (HE.out.ext ek)).mono (fun k hk => .inl hk)) (.inr rfl)) (by simp) (by
    intro z hz
    simp only [List.mem_cons, List.not_mem_nil, or_false] at hz
    rcases hz with rfl | rfl
    · exact HXL.out
    · exact HYL.out)).mono ?_
  rintro e w' ⟨rfl, rfl⟩
  have HE3 := Lib.hid (HE.out.ext ek)
  generalize w0.alloc (Obj.cells #[.int .i64 x.what, .bool x.item.side, .int .i64 x.item.key, .slice ax x.item.bytes.length cx, .int .i64 y.what, .bool y.item.side, .int .i64 y.item.key, .slice ay y.item.bytes.length cy] 42) = w1 at ek HE3 ⊢
  -- the boxes and the arguments over one more step
  clear c0 z0 c1 z1 l0 l1
  replace BX := Lib.hid (BX.out.keeps (Ext.keeps ek : Keeps NoB w0 w1) (by first | exact noB _ | (unfold OneB; omega)))
  replace BY := Lib.hid (BY.out.keeps (Ext.keeps ek : Keeps NoB w0 w1) (by first | exact noB _ | (unfold OneB; omega)))
  obtain ⟨c0, z0⟩ := BX.out.reads
  obtain ⟨c1, z1⟩ := BY.out.reads
  have l0 := BX.out.lt
  have l1 := BY.out.lt
  clear ek bk
  have hww1 := HE3.out.size
  have hw01 : w.heap.size + 1 < w1.heap.size := l1
  go_wp2_with fail
  refine (played_in (A := A) w1 4 _ l (HV.out.ext HE3.out) (by decide) (by decide) HS.out (by omega) (fun k hk => Nat.lt_of_lt_of_le (HAA.out k hk) HE3.out.size)).mono ?_
  rintro e w2 ⟨b, v2, rfl, hr, hw, hfit, hbn, hE⟩
  obtain ⟨R, hR⟩ : ∃ R, AR.acts ⟨4, 0, []⟩ l = R := ⟨_, rfl⟩
  rw [hR] at hr hw hfit
  obtain ⟨a2, cc2, rfl⟩ := hw.len
  have HR2 := Lib.hid hr
  have HW2 := Lib.hid hw
  have HMO := Lib.hid hfit.most
  have hlo := hfit.lost
  have hle := hr.le
  have hlb := hr.lt
  have HFI := Lib.hid hfit
  have HX6 : Hid (∀ x ∈ R.items, x.bytes.length ≤ 1000000) := Lib.hid (fun x hx => by have := hfit.small x hx; omega)
  have HE2 := Lib.hid (HE3.out.ext hE)
  -- the boxes and the arguments over one more step
  clear c0 z0 c1 z1 l0 l1
  replace BX := Lib.hid (BX.out.keeps (Ext.keeps hE : Keeps NoB w1 w2) (by first | exact noB _ | (unfold OneB; omega)))
  replace BY := Lib.hid (BY.out.keeps (Ext.keeps hE : Keeps NoB w1 w2) (by first | exact noB _ | (unfold OneB; omega)))
  obtain ⟨c0, z0⟩ := BX.out.reads
  obtain ⟨c1, z1⟩ := BY.out.reads
  have l0 := BX.out.lt
  have l1 := BY.out.lt
  have h12 := hE.size
  clear hE hr hw hR hfit
  go_wp2_with fail
  have bp0 := (Box.new w2 48 [.int .i64 (R.most : Int), .slice a2 R.items.length cc2, .int .i64 (R.lost : Int)])
  have ep : Ext w2 (w2.alloc (Obj.cells #[.int .i64 (R.most : Int), .slice a2 R.items.length cc2, .int .i64 (R.lost : Int)] 48)) := ((Keeps.refl NoB w2).alloc _)
  have sp : (w2.alloc (Obj.cells #[.int .i64 (R.most : Int), .slice a2 R.items.length cc2, .int .i64 (R.lost : Int)] 48)).heap.size = w2.heap.size + 1 := by simp
  generalize (w2.alloc (Obj.cells #[.int .i64 (R.most : Int), .slice a2 R.items.length cc2, .int .i64 (R.lost : Int)] 48)) = w3 at bp0 ep sp ⊢
  have Sp := Lib.hid sp
  clear sp
  have BW := Lib.hid bp0
  have HE3' := Lib.hid (HE2.out.ext ep)
  have HR3 := Lib.hid (HR2.out.ext ep)
  have HW3 := Lib.hid (HW2.out.ext ep)
  -- the boxes and the arguments over one more step
  clear c0 z0 c1 z1 l0 l1
  replace BX := Lib.hid (BX.out.keeps (Ext.keeps ep : Keeps NoB w2 w3) (by first | exact noB _ | (unfold OneB; omega)))
  replace BY := Lib.hid (BY.out.keeps (Ext.keeps ep : Keeps NoB w2 w3) (by first | exact noB _ | (unfold OneB; omega)))
  obtain ⟨c0, z0⟩ := BX.out.reads
  obtain ⟨c1, z1⟩ := BY.out.reads
  have l0 := BX.out.lt
  have l1 := BY.out.lt
  have h23 := ep.size
  have hlq := bp0.lt
  clear ep bp0
  refine (copy_x (N' := OneB b) w3 b R HR3.out HX6.out (fun k hk => by unfold OneB at hk; omega)).mono ?_
  rintro e w4 ⟨c, rfl, hc, hcn, hE⟩
  have hlc := hc.lt
  have HC4 := Lib.hid hc
  have HR4 := Lib.hid (HR3.out.grow (N' := OneB c) (Ext.keeps hE) (noB _) (fun k hk => by unfold OneB at hk; exact .inr (by omega)))
  have HE4 := Lib.hid (HE3'.out.ext hE)
  replace BW := Lib.hid (BW.out.ext hE)
  -- the boxes and the arguments over one more step
  clear c0 z0 c1 z1 l0 l1
  replace BX := Lib.hid (BX.out.keeps (Ext.keeps hE : Keeps NoB w3 w4) (by first | exact noB _ | (unfold OneB; omega)))
  replace BY := Lib.hid (BY.out.keeps (Ext.keeps hE : Keeps NoB w3 w4) (by first | exact noB _ | (unfold OneB; omega)))
  obtain ⟨c0, z0⟩ := BX.out.reads
  obtain ⟨c1, z1⟩ := BY.out.reads
  have l0 := BX.out.lt
  have l1 := BY.out.lt
  have h34 := hE.size
  have HE34 := Lib.hid hE
  clear hE hc
  go_wp2_with fail
  refine (new_x NoB w4 5 (by decide) (by decide) (fun _ h => (noB _ h).elim) _ rfl).mono ?_
  rintro e w5 ⟨o, rfl, ho, hE, hon⟩
  have HO5 := Lib.hid ho
  have HC5 := Lib.hid (HC4.out.ext hE)
  have HR5 := Lib.hid (HR4.out.ext hE)
  have HE5 := Lib.hid (HE4.out.ext hE)
  have HE35 := Lib.hid (HE34.out.ext hE)
  replace BW := Lib.hid (BW.out.ext hE)
  -- the boxes and the arguments over one more step
  clear c0 z0 c1 z1 l0 l1
  replace BX := Lib.hid (BX.out.keeps (Ext.keeps hE : Keeps NoB w4 w5) (by first | exact noB _ | (unfold OneB; omega)))
  replace BY := Lib.hid (BY.out.keeps (Ext.keeps hE : Keeps NoB w4 w5) (by first | exact noB _ | (unfold OneB; omega)))
  obtain ⟨c0, z0⟩ := BX.out.reads
  obtain ⟨c1, z1⟩ := BY.out.reads
  have l0 := BX.out.lt
  have l1 := BY.out.lt
  clear hE ho
  go_wp2_with fail
  refine (same_xx w5 b c R R HR5.out HC5.out HX6.out HX6.out).mono ?_
  rintro e w6 ⟨bl, rfl, hbl, hE⟩
  obtain rfl : bl = true := hbl.2 rfl
  have HO6 := Lib.hid (HO5.out.ext hE)
  have HC6 := Lib.hid (HC5.out.ext hE)
  have HR6 := Lib.hid (HR5.out.ext hE)
  have HE6 := Lib.hid (HE5.out.ext hE)
  have HE36 := Lib.hid (HE35.out.ext hE)
  replace BW := Lib.hid (BW.out.ext hE)
  -- the boxes and the arguments over one more step
  clear c0 z0 c1 z1 l0 l1
  replace BX := Lib.hid (BX.out.keeps (Ext.keeps hE : Keeps NoB w5 w6) (by first | exact noB _ | (unfold OneB; omega)))
  replace BY := Lib.hid (BY.out.keeps (Ext.keeps hE : Keeps NoB w5 w6) (by first | exact noB _ | (unfold OneB; omega)))
  obtain ⟨c0, z0⟩ := BX.out.reads
  obtain ⟨c1, z1⟩ := BY.out.reads
  have l0 := BX.out.lt
  have l1 := BY.out.lt
  clear hE hbl
  go_wp2_with fail
  refine (same_xx w6 b o R ⟨5, 0, []⟩ HR6.out HO6.out HX6.out (by simp)).mono ?_
  rintro e w7 ⟨bl, rfl, hbl, hE⟩
  obtain rfl : bl = false := by
    cases bl with
    | false => rfl
    | true => have h := hbl.1 rfl; have hmo := HMO.out; rw [h] at hmo; exact absurd hmo (by decide)
  have HC7 := Lib.hid (HC6.out.ext hE)
  have HR7 := Lib.hid (HR6.out.ext hE)
  have HE7 := Lib.hid (HE6.out.ext hE)
  have HE37 := Lib.hid (HE36.out.ext hE)
  replace BW := Lib.hid (BW.out.ext hE)
  -- the boxes and the arguments over one more step
  clear c0 z0 c1 z1 l0 l1
  replace BX := Lib.hid (BX.out.keeps (Ext.keeps hE : Keeps NoB w6 w7) (by first | exact noB _ | (unfold OneB; omega)))
  replace BY := Lib.hid (BY.out.keeps (Ext.keeps hE : Keeps NoB w6 w7) (by first | exact noB _ | (unfold OneB; omega)))
  obtain ⟨c0, z0⟩ := BX.out.reads
  obtain ⟨c1, z1⟩ := BY.out.reads
  have l0 := BX.out.lt
  have l1 := BY.out.lt
  clear hE hbl
  obtain ⟨cw, zw⟩ := BW.out.reads
  have lw := BW.out.lt
  go_wp2_with fail
  refine (is_any w7 c R _ HC7.out (HW3.out.ext HE37.out) HX6.out).mono ?_
  rintro e w8 ⟨rfl, hE⟩
  have HC8 := Lib.hid (HC7.out.ext hE)
  have HR8 := Lib.hid (HR7.out.ext hE)
  have HE8 := Lib.hid (HE7.out.ext hE)
  have HE38 := Lib.hid (HE37.out.ext hE)
  replace BW := Lib.hid (BW.out.ext hE)
  -- the boxes and the arguments over one more step
  clear c0 z0 c1 z1 l0 l1
  replace BX := Lib.hid (BX.out.keeps (Ext.keeps hE : Keeps NoB w7 w8) (by first | exact noB _ | (unfold OneB; omega)))
  replace BY := Lib.hid (BY.out.keeps (Ext.keeps hE : Keeps NoB w7 w8) (by first | exact noB _ | (unfold OneB; omega)))
  obtain ⟨c0, z0⟩ := BX.out.reads
  obtain ⟨c1, z1⟩ := BY.out.reads
  have l0 := BX.out.lt
  have l1 := BY.out.lt
  clear hE cw zw lw
  obtain ⟨cw, zw⟩ := BW.out.reads
  have lw := BW.out.lt
  have h38 := HE38.out.size
  have hbc : b ≠ c := by omega
  have HW8 : Hid (RefX w8 (TwoB b c) (.agg #[.int .i64 (R.most : Int), .slice a2 R.items.length cc2, .int .i64 (R.lost : Int)]) R) := Lib.hid (HW3.out.more HE38.out (fun k hk => by
    rcases hk with hk | hk
    · exact .inl hk
    · exact .inr (by omega)))
  have hRm : R.most ≤ 1000 := by have := HMO.out; omega
  have hRl : R.items.length ≤ 1000 := by have := HMO.out; omega
  have hRo : R.lost ≤ 1000000 := by omega
  have hlb8 : b < w8.heap.size := HR8.out.lt
  have hlc8 : c < w8.heap.size := HC8.out.lt
  have HBC := Lib.hid hbc
  clear hbc
  go_wp2_with fail
  refine (act_any (M := TwoB b c) (N := OneB c) (B := A) w8 b R _ _ x HR8.out HW8.out ⟨_, rfl, HX.out.ext HE8.out⟩ (fun k hk => by rcases hk with hk | hk <;> omega) (fun k hk => by unfold OneB at hk; omega) (.inl rfl) (fun hk => HBC.out hk) (fun k hk => Nat.lt_of_lt_of_le (HAA.out k hk) HE8.out.size) hRl hRm hRo (by omega)).mono ?_
  rintro e w9 ⟨v9, rfl, hw9, hr9, hk9⟩
  have HFI1 := Lib.hid (HFI.out.act (by have := hle.1; exact this) x hx200)
  obtain ⟨R1, hR1⟩ : ∃ R1, R.act x = R1 := ⟨_, rfl⟩
  rw [hR1] at hw9 hr9 HFI1
  obtain ⟨a9, c9, rfl⟩ := hw9.len
  have HX61 : Hid (∀ x ∈ R1.items, x.bytes.length ≤ 1000000) := Lib.hid (fun x hx => by have := HFI1.out.small x hx; omega)
  have HN9 := Lib.hid hw9
  have HR9 := Lib.hid hr9
  have HW9 := Lib.hid (HW8.out.keeps hk9 (fun k _ hk => .inl hk))
  have HC9 := Lib.hid (HC8.out.keeps hk9 (fun k hk => hk) (fun hk => HBC.out hk.symm))
  have hnb : ¬ OneB b w2.heap.size := by unfold OneB; omega
  replace BW := Lib.hid (BW.out.keeps hk9 hnb)
  -- the boxes and the arguments over one more step
  clear c0 z0 c1 z1 l0 l1
  replace BX := Lib.hid (BX.out.keeps hk9 (by first | exact noB _ | (unfold OneB; omega)))
  replace BY := Lib.hid (BY.out.keeps hk9 (by first | exact noB _ | (unfold OneB; omega)))
  obtain ⟨c0, z0⟩ := BX.out.reads
  obtain ⟨c1, z1⟩ := BY.out.reads
  have l0 := BX.out.lt
  have l1 := BY.out.lt
  have HE9 : Hid (Ext w w9) := Lib.hid (HE8.out.then hk9 (fun i hi h => by unfold OneB at h; omega))
  have h89 := hk9.size
  clear hk9 hw9 hr9 hR1 cw zw lw hnb
  obtain ⟨cw, zw⟩ := BW.out.reads
  have lw := BW.out.lt
  go_wp2_with fail
  clear cw zw lw
  have br0 := (Box.new w9 48 [.int .i64 (R1.most : Int), .slice a9 R1.items.length c9, .int .i64 (R1.lost : Int)])
  have er : Ext w9 (w9.alloc (Obj.cells #[.int .i64 (R1.most : Int), .slice a9 R1.items.length c9, .int .i64 (R1.lost : Int)] 48)) := ((Keeps.refl NoB w9).alloc _)
  have sr : (w9.alloc (Obj.cells #[.int .i64 (R1.most : Int), .slice a9 R1.items.length c9, .int .i64 (R1.lost : Int)] 48)).heap.size = w9.heap.size + 1 := by simp
  generalize (w9.alloc (Obj.cells #[.int .i64 (R1.most : Int), .slice a9 R1.items.length c9, .int .i64 (R1.lost : Int)] 48)) = w10 at br0 er sr ⊢
  have Sr := Lib.hid sr
  clear sr
  have BN := Lib.hid br0
  have HE10 := Lib.hid (HE9.out.ext er)
  have HN10 := Lib.hid (HN9.out.ext er)
  have HR10 := Lib.hid (HR9.out.ext er)
  have HW10 := Lib.hid (HW9.out.ext er)
  have HC10 := Lib.hid (HC9.out.ext er)
  replace BW := Lib.hid (BW.out.ext er)
  -- the boxes and the arguments over one more step
  clear c0 z0 c1 z1 l0 l1
  replace BX := Lib.hid (BX.out.keeps (Ext.keeps er : Keeps NoB w9 w10) (by first | exact noB _ | (unfold OneB; omega)))
  replace BY := Lib.hid (BY.out.keeps (Ext.keeps er : Keeps NoB w9 w10) (by first | exact noB _ | (unfold OneB; omega)))
  obtain ⟨c0, z0⟩ := BX.out.reads
  obtain ⟨c1, z1⟩ := BY.out.reads
  have l0 := BX.out.lt
  have l1 := BY.out.lt
  have h910 := er.size
  clear er br0
  refine (rsame_any w10 _ _ R R1 HW10.out HN10.out hRl).mono ?_
  rintro e w11 ⟨sm, rfl, hsm, hE⟩
  have HSM := Lib.hid hsm
  have HE11 := Lib.hid (HE10.out.ext hE)
  have HN11 := Lib.hid (HN10.out.ext hE)
  have HR11 := Lib.hid (HR10.out.ext hE)
  have HW11 := Lib.hid (HW10.out.ext hE)
  have HC11 := Lib.hid (HC10.out.ext hE)
  replace BW := Lib.hid (BW.out.ext hE)
  replace BN := Lib.hid (BN.out.ext hE)
  -- the boxes and the arguments over one more step
  clear c0 z0 c1 z1 l0 l1
  replace BX := Lib.hid (BX.out.keeps (Ext.keeps hE : Keeps NoB w10 w11) (by first | exact noB _ | (unfold OneB; omega)))
  replace BY := Lib.hid (BY.out.keeps (Ext.keeps hE : Keeps NoB w10 w11) (by first | exact noB _ | (unfold OneB; omega)))
  obtain ⟨c0, z0⟩ := BX.out.reads
  obtain ⟨c1, z1⟩ := BY.out.reads
  have l0 := BX.out.lt
  have l1 := BY.out.lt
  clear hE hsm
  go_wp2_with fail
  refine (same_xx w11 b c R1 R HR11.out HC11.out HX61.out HX6.out).mono ?_
  rintro e w12 ⟨bl, rfl, hbl, hE⟩
  obtain rfl : bl = sm := Bool.eq_of_iff (hbl.trans eq_comm) HSM.out
  have HE12 := Lib.hid (HE11.out.ext hE)
  have HN12 := Lib.hid (HN11.out.ext hE)
  have HR12 := Lib.hid (HR11.out.ext hE)
  have HW12 := Lib.hid (HW11.out.ext hE)
  have HC12 := Lib.hid (HC11.out.ext hE)
  replace BW := Lib.hid (BW.out.ext hE)
  replace BN := Lib.hid (BN.out.ext hE)
  -- the boxes and the arguments over one more step
  clear c0 z0 c1 z1 l0 l1
  replace BX := Lib.hid (BX.out.keeps (Ext.keeps hE : Keeps NoB w11 w12) (by first | exact noB _ | (unfold OneB; omega)))
  replace BY := Lib.hid (BY.out.keeps (Ext.keeps hE : Keeps NoB w11 w12) (by first | exact noB _ | (unfold OneB; omega)))
  obtain ⟨c0, z0⟩ := BX.out.reads
  obtain ⟨c1, z1⟩ := BY.out.reads
  have l0 := BX.out.lt
  have l1 := BY.out.lt
  clear hE hbl
  go_wp2_with fail
  refine (same_xx w12 c b R R1 HC12.out HR12.out HX6.out HX61.out).mono ?_
  rintro e w13 ⟨bl2, rfl, hbl, hE⟩
  obtain rfl : bl2 = bl := Bool.eq_of_iff hbl HSM.out
  have HE13 := Lib.hid (HE12.out.ext hE)
  have HN13 := Lib.hid (HN12.out.ext hE)
  have HR13 := Lib.hid (HR12.out.ext hE)
  have HW13 := Lib.hid (HW12.out.ext hE)
  have HC13 := Lib.hid (HC12.out.ext hE)
  replace BW := Lib.hid (BW.out.ext hE)
  replace BN := Lib.hid (BN.out.ext hE)
  -- the boxes and the arguments over one more step
  clear c0 z0 c1 z1 l0 l1
  replace BX := Lib.hid (BX.out.keeps (Ext.keeps hE : Keeps NoB w12 w13) (by first | exact noB _ | (unfold OneB; omega)))
  replace BY := Lib.hid (BY.out.keeps (Ext.keeps hE : Keeps NoB w12 w13) (by first | exact noB _ | (unfold OneB; omega)))
  obtain ⟨c0, z0⟩ := BX.out.reads
  obtain ⟨c1, z1⟩ := BY.out.reads
  have l0 := BX.out.lt
  have l1 := BY.out.lt
  have hlb13 : b < w13.heap.size := HR13.out.lt
  have hlc13 : c < w13.heap.size := HC13.out.lt
  clear hE hbl
  obtain ⟨cw, zw⟩ := BW.out.reads
  have lw := BW.out.lt
  go_wp2_with fail
  refine (act_any (M := TwoB b c) (N := OneB b) (B := A) w13 c R _ _ y HC13.out HW13.out ⟨_, rfl, HY.out.ext HE13.out⟩ (fun k hk => by rcases hk with hk | hk <;> omega) (fun k hk => by unfold OneB at hk; omega) (.inr rfl) (fun hk => HBC.out hk.symm) (fun k hk => Nat.lt_of_lt_of_le (HAA.out k hk) HE13.out.size) hRl hRm hRo (by omega)).mono ?_
  rintro e w14 ⟨v14, rfl, hw14, hr14, hk14⟩
  have HFI2 := Lib.hid (HFI.out.act (by have := hle.1; exact this) y hy200)
  obtain ⟨R2, hR2⟩ : ∃ R2, R.act y = R2 := ⟨_, rfl⟩
  rw [hR2] at hw14 hr14 HFI2
  obtain ⟨a14, c14, rfl⟩ := hw14.len
  have HX62 : Hid (∀ x ∈ R2.items, x.bytes.length ≤ 1000000) := Lib.hid (fun x hx => by have := HFI2.out.small x hx; omega)
  have HL14 := Lib.hid hw14
  have HC14 := Lib.hid hr14
  have HN14 := Lib.hid (HN13.out.keeps hk14 (fun k _ hk => .inr hk))
  have HR14 := Lib.hid (HR13.out.keeps hk14 (fun k hk => hk) (fun hk => HBC.out hk))
  have hn9 : ¬ OneB c w9.heap.size := by unfold OneB; omega
  replace BN := Lib.hid (BN.out.keeps hk14 hn9)
  have HE14 : Hid (Ext w w14) := Lib.hid (HE13.out.then hk14 (fun i hi h => by unfold OneB at h; omega))
  clear hk14 hw14 hr14 hR2 cw zw lw hn9 c0 z0 c1 z1
  obtain ⟨cn, zn⟩ := BN.out.reads
  have ln := BN.out.lt
  go_wp2_with fail
  clear cn zn ln
  have bs0 := (Box.new w14 48 [.int .i64 (R2.most : Int), .slice a14 R2.items.length c14, .int .i64 (R2.lost : Int)])
  have es : Ext w14 (w14.alloc (Obj.cells #[.int .i64 (R2.most : Int), .slice a14 R2.items.length c14, .int .i64 (R2.lost : Int)] 48)) := ((Keeps.refl NoB w14).alloc _)
  have ss : (w14.alloc (Obj.cells #[.int .i64 (R2.most : Int), .slice a14 R2.items.length c14, .int .i64 (R2.lost : Int)] 48)).heap.size = w14.heap.size + 1 := by simp
  generalize (w14.alloc (Obj.cells #[.int .i64 (R2.most : Int), .slice a14 R2.items.length c14, .int .i64 (R2.lost : Int)] 48)) = w15 at bs0 es ss ⊢
  have Ss := Lib.hid ss
  clear ss
  have BL := Lib.hid bs0
  have HE15 := Lib.hid (HE14.out.ext es)
  have HN15 := Lib.hid (HN14.out.ext es)
  have HR15 := Lib.hid (HR14.out.ext es)
  have HL15 := Lib.hid (HL14.out.ext es)
  have HC15 := Lib.hid (HC14.out.ext es)
  replace BN := Lib.hid (BN.out.ext es)
  clear es bs0
  refine (is_any w15 b R1 _ HR15.out HN15.out HX61.out).mono ?_
  rintro e w16 ⟨rfl, hE⟩
  have HE16 := Lib.hid (HE15.out.ext hE)
  have HL16 := Lib.hid (HL15.out.ext hE)
  have HC16 := Lib.hid (HC15.out.ext hE)
  replace BL := Lib.hid (BL.out.ext hE)
  clear hE
  obtain ⟨cl, zl⟩ := BL.out.reads
  have ll := BL.out.lt
  go_wp2_with fail
  refine (is_any w16 c R2 _ HC16.out HL16.out HX62.out).mono ?_
  rintro e w17 ⟨rfl, hE⟩
  have HE17 := Lib.hid (HE16.out.ext hE)
  clear hE cl zl ll
  go_wp2_with fail
  refine (works_any _).mono ?_
  rintro e w18 ⟨rfl, hE⟩
  have HE18 := Lib.hid (HE17.out.ext hE)
  clear hE
  go_wp2_with fail
  go_ret
  exact ⟨rfl, HE18.out⟩
end Go.Proofs.Ytocjnieehogcbaa
