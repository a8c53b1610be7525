/- The ring statements' call by both, the program and the document: they tell the same, and stand alike behind it. Conditions: the ring lies as 'RingX' says, the document's as 'RefX' says. -/
import Derived.Test.YtocjnieehogcbaaRefF
import Derived.Test.YtocjnieehogcbaaStop
set_option linter.unusedVariables false
set_option maxHeartbeats 400000
namespace Go.Proofs.Ytocjnieehogcbaa
open Go.RowKit

/-- the document's ring, in blocks of the call's world, none of M -/
def RefX (w : World) (M : Nat → Prop) (v : Value) (R : AR) : Prop := ∃ A, RefV w A v R ∧ ∀ k, A k → k < w.heap.size ∧ ¬ M k
section
variable {w w' : World} {S M M' : Nat → Prop} {v : Value} {R : AR}
theorem RefX.keeps (h : RefX w M v R) (hk : Keeps S w w') (hs : ∀ k, k < w.heap.size → S k → M k) : RefX w' M v R :=
  let ⟨A, h1, h2⟩ := h
  ⟨A, h1.keeps hk fun k ha hS => (h2 k ha).2 (hs k (h2 k ha).1 hS), fun k ha => ⟨Nat.lt_of_lt_of_le (h2 k ha).1 hk.size, (h2 k ha).2⟩⟩
theorem RefX.ext (h : RefX w M v R) (hk : Ext w w') : RefX w' M v R := h.keeps hk fun _ _ h => (noB _ h).elim
theorem RefX.more (h : RefX w M v R) (hk : Ext w w') (hM : ∀ k, M' k → M k ∨ w.heap.size ≤ k) : RefX w' M' v R :=
  let ⟨A, h1, h2⟩ := h
  ⟨A, h1.ext hk, fun k ha => ⟨Nat.lt_of_lt_of_le (h2 k ha).1 hk.size, fun hm => by
    rcases hM k hm with h | h
    · exact (h2 k ha).2 h
    · have := (h2 k ha).1; omega⟩⟩
theorem RefX.less (h : RefX w M v R) (hM : ∀ k, M' k → M k) : RefX w M' v R :=
  let ⟨A, h1, h2⟩ := h
  ⟨A, h1, fun k ha => ⟨(h2 k ha).1, fun hm => (h2 k ha).2 (hM k hm)⟩⟩
theorem RefX.of {A : Nat → Prop} (h : RefV w A v R) (hA : ∀ k, A k → k < w.heap.size ∧ ¬ M k) : RefX w M v R := ⟨A, h, hA⟩
theorem RefX.put {w0 : World} {A : Nat → Prop} (h : RefV w (fun k => A k ∨ (w0.heap.size ≤ k ∧ k < w.heap.size)) v R) (hA : ∀ k, A k → k < w0.heap.size ∧ ¬ M k) (hM : ∀ k, M k → k < w0.heap.size) (hs : w0.heap.size ≤ w.heap.size) : RefX w M v R :=
  ⟨_, h, fun k hk => by
    rcases hk with hk | hk
    · exact ⟨Nat.lt_of_lt_of_le (hA k hk).1 hs, (hA k hk).2⟩
    · exact ⟨hk.2, fun hm => absurd (hM k hm) (by omega)⟩⟩
theorem RefX.len (h : RefX w M v R) : ∃ a c, v = .agg #[.int .i64 (R.most : Int), .slice a R.items.length c, .int .i64 (R.lost : Int)] := by
  obtain ⟨A, ⟨sv, rfl, hs⟩, -⟩ := h
  obtain ⟨a, c, rfl, -⟩ := hs.itAt
  exact ⟨_, _, rfl⟩
end
theorem RingX.less {w : World} {N N' : Nat → Prop} {b : Nat} {R : AR} (h : RingX w N b R) (hN : ∀ k, N' k → N k) : RingX w N' b R :=
  let ⟨f, A, h1, h2, h3⟩ := h
  ⟨f, A, h1, h2, fun k hk => ⟨(h3 k hk).1, fun hn => (h3 k hk).2 (hN k hn)⟩⟩
theorem rputX {M B : Nat → Prop} (w : World) (v vx : Value) (R : AR) (x : It) (h : RefX w M v R) (hM : ∀ k, M k → k < w.heap.size) (hv : ItemV w B vx x) (hl : R.items.length ≤ 1000) (hm : R.most ≤ 1000) (hlost : R.lost ≤ 1000000) (hx : x.bytes.length ≤ 1000000) (hB : ∀ k, B k → k < w.heap.size) :
    Calls Try.prog 42 #[v, vx] w fun e w' =>
      ∃ v', e = .returned (.tuple #[v', .int .i64 ((R.put x).2.1 : Nat), .int .i64 ((R.put x).2.2 : Nat)]) ∧ RefX w' M v' (R.put x).1 ∧ Ext w w' := by
  obtain ⟨A, hA, hA2⟩ := h
  exact (rput_any w v vx R x hA hv hl hm hlost hx (fun k hk => (hA2 k hk).1) hB).mono fun e w' ⟨v', h1, h2, h3⟩ => ⟨v', h1, RefX.put h2 hA2 hM h3.size, h3⟩

def AR.act (R : AR) (x : Ac) : AR := if x.what = 0 then (R.put x.item).1 else if x.what = 1 then { R with items := R.items.tail } else { R with items := [] }
/-- an Act as a value -/
def ActV (w : World) (B : Nat → Prop) (v : Value) (x : Ac) : Prop := ∃ bv, v = .agg #[.int .i64 x.what, .bool x.item.side, .int .i64 x.item.key, bv] ∧ Bytes w B bv x.item.bytes
def ActPost (w : World) (M N : Nat → Prop) (b : Nat) (R : AR) (x : Ac) (e : Ending) (w' : World) : Prop :=
  ∃ v', e = .returned (.tuple #[v', .bool true]) ∧ RefX w' M v' (R.act x) ∧ RingX w' N b (R.act x) ∧ Keeps (OneB b) w w'

/-- a byte set anew -/
theorem Win.bump {w : World} {base n cap o g : Nat} {l : List UInt8} (h : Win w base 1 (.slice (some ⟨g, o, none⟩) n cap) n (l.map byV)) (k : Nat) (hk : k < n) (c : UInt8) :
    Win (w.setCell ⟨g, o + k, none⟩ (byV c)) base 1 (.slice (some ⟨g, o, none⟩) n cap) n ((l.set k c).map byV) := by
  have hl : l.length = n := by have := h.1; simpa using this
  have h1 := h.set k hk (c := [byV c]) rfl
  simp only [Nat.mul_one, World.setCells] at h1
  rw [List.set_eq_take_append_cons_drop, if_pos (by omega)]
  simpa [List.map_take, List.map_drop] using h1
theorem byte_wrap (c : UInt8) : IntKind.u8.wrap ((c.toNat : Int) + 1) = ((c + 1).toNat : Int) := by
  have h := c.toNat_lt
  rw [UInt8.toNat_add]
  simp only [IntKind.wrap, IntKind.signed, IntKind.bits]
  first | done | simp | omega
theorem act_put {M N B : Nat → Prop} (w : World) (b : Nat) (R : AR) (vw bv : Value) (x : It) (hr : RingX w N b R) (hw : RefX w M vw R) (hb : Bytes w B bv x.bytes) (hM : ∀ k, M k → k < w.heap.size) (hN : ∀ k, N k → k < w.heap.size) (hMb : M b) (hNb : ¬ N b) (hB : ∀ k, B k → k < w.heap.size)
    (hl : R.items.length ≤ 1000) (hm : R.most ≤ 1000) (hlost : R.lost ≤ 1000000) (hx : x.bytes.length ≤ 1000000) :
    Calls Try.prog 20 #[.pointer (some ⟨b, 0, none⟩), vw, .agg #[.int .i64 0, .bool x.side, .int .i64 x.key, bv]] w (ActPost w M N b R ⟨0, x⟩) := by
  have HR := Lib.hid hr
  have HW := Lib.hid hw
  have HM := Lib.hid hM
  have HN := Lib.hid hN
  have HB := Lib.hid hB
  have HV := Lib.hid hb
  have HMB := Lib.hid hMb
  have HNB := Lib.hid hNb
  obtain ⟨a, c, rfl⟩ := hw.len
  obtain ⟨a2, c2, rfl⟩ := hb.len
  obtain ⟨xs, xk, xb⟩ := x
  dsimp only at hb hx ⊢
  have hbw := hr.lt
  clear hr hw hM hN hB hb hMb hNb
  go_enter Try.func20, Try.ntmps20
  go_wp2_with fail
  have bx0 := (((Box.new w 48 [.int .i64 (R.most : Int), .slice a R.items.length c, .int .i64 (R.lost : Int)]).alloc (Obj.cells #[.int .i64 0, .bool xs, .int .i64 xk, .slice a2 xb.length c2] 42)).alloc (Obj.cells #[.int .i64 0, .slice none 0 0, .int .i64 0] 48))
  have bx1 := ((Box.new (w.alloc (Obj.cells #[.int .i64 (R.most : Int), .slice a R.items.length c, .int .i64 (R.lost : Int)] 48)) 42 [.int .i64 0, .bool xs, .int .i64 xk, .slice a2 xb.length c2]).alloc (Obj.cells #[.int .i64 0, .slice none 0 0, .int .i64 0] 48))
  have bx2 := (Box.new ((w.alloc (Obj.cells #[.int .i64 (R.most : Int), .slice a R.items.length c, .int .i64 (R.lost : Int)] 48)).alloc (Obj.cells #[.int .i64 0, .bool xs, .int .i64 xk, .slice a2 xb.length c2] 42)) 48 [.int .i64 0, .slice none 0 0, .int .i64 0])
  have ex : Ext w (((w.alloc (Obj.cells #[.int .i64 (R.most : Int), .slice a R.items.length c, .int .i64 (R.lost : Int)] 48)).alloc (Obj.cells #[.int .i64 0, .bool xs, .int .i64 xk, .slice a2 xb.length c2] 42)).alloc (Obj.cells #[.int .i64 0, .slice none 0 0, .int .i64 0] 48)) := ((((Keeps.refl NoB w).alloc _).alloc _).alloc _)
  have sx : (((w.alloc (Obj.cells #[.int .i64 (R.most : Int), .slice a R.items.length c, .int .i64 (R.lost : Int)] 48)).alloc (Obj.cells #[.int .i64 0, .bool xs, .int .i64 xk, .slice a2 xb.length c2] 42)).alloc (Obj.cells #[.int .i64 0, .slice none 0 0, .int .i64 0] 48)).heap.size = w.heap.size + 3 := by simp
  simp only [World.size_alloc] at bx1 bx2
  generalize (((w.alloc (Obj.cells #[.int .i64 (R.most : Int), .slice a R.items.length c, .int .i64 (R.lost : Int)] 48)).alloc (Obj.cells #[.int .i64 0, .bool xs, .int .i64 xk, .slice a2 xb.length c2] 42)).alloc (Obj.cells #[.int .i64 0, .slice none 0 0, .int .i64 0] 48)) = w0 at bx0 bx1 bx2 ex sx ⊢
  have Sx := Lib.hid sx
  clear sx
  refine (rputX (M := fun k => M k ∨ k = w.heap.size + 1 + 1) (B := B) w0 _ _ R ⟨xs, xk, xb⟩ (HW.out.more ex (fun k hk => by
    rcases hk with hk | hk
    · exact .inl hk
    · exact .inr (by omega))) (fun k hk => by
    rcases hk with hk | hk
    · exact Nat.lt_of_lt_of_le (HM.out k hk) ex.size
    · have := bx2.lt; omega) ⟨_, rfl, HV.out.ext ex⟩ hl hm hlost hx (fun k hk => Nat.lt_of_lt_of_le (HB.out k hk) ex.size)).mono ?_
  rintro e w1 ⟨v', rfl, hx1, hE1⟩
  obtain ⟨a1, c1, rfl⟩ := hx1.len
  have HX1 := Lib.hid hx1
  have BX1 := Lib.hid (bx1.ext hE1)
  have BX2 := Lib.hid (bx2.ext hE1)
  obtain ⟨p1, z1⟩ := BX1.out.reads
  obtain ⟨p2, z2⟩ := BX2.out.reads
  have l0 := (bx0.ext hE1).lt
  have l1 := BX1.out.lt
  have l2 := BX2.out.lt
  have HE1 := Lib.hid (ex.ext hE1)
  clear hx1 hE1 ex bx0 bx1 bx2
  obtain ⟨r, hput⟩ : ∃ r, R.put ⟨xs, xk, xb⟩ = r := ⟨_, rfl⟩
  rw [hput]
  rw [hput] at HX1
  have HPUT := Lib.hid hput
  clear hput
  obtain ⟨R', n1, e1⟩ := r
  dsimp only at HX1 ⊢
  go_wp2_with (at_builtin; refine standing ?_)
  have by0 := (((Box.new w1 48 [.int .i64 (R'.most : Int), .slice a1 R'.items.length c1, .int .i64 (R'.lost : Int)]).alloc (Obj.cells #[.bool xs, .int .i64 xk, .slice a2 xb.length c2] 31)).alloc (Obj.cells #[] 5))
  have by1 := ((Box.new (w1.alloc (Obj.cells #[.int .i64 (R'.most : Int), .slice a1 R'.items.length c1, .int .i64 (R'.lost : Int)] 48)) 31 [.bool xs, .int .i64 xk, .slice a2 xb.length c2]).alloc (Obj.cells #[] 5))
  have by2 := (Box.new ((w1.alloc (Obj.cells #[.int .i64 (R'.most : Int), .slice a1 R'.items.length c1, .int .i64 (R'.lost : Int)] 48)).alloc (Obj.cells #[.bool xs, .int .i64 xk, .slice a2 xb.length c2] 31)) 5 [])
  have ey : Ext w1 (((w1.alloc (Obj.cells #[.int .i64 (R'.most : Int), .slice a1 R'.items.length c1, .int .i64 (R'.lost : Int)] 48)).alloc (Obj.cells #[.bool xs, .int .i64 xk, .slice a2 xb.length c2] 31)).alloc (Obj.cells #[] 5)) := ((((Keeps.refl NoB w1).alloc _).alloc _).alloc _)
  have sy : (((w1.alloc (Obj.cells #[.int .i64 (R'.most : Int), .slice a1 R'.items.length c1, .int .i64 (R'.lost : Int)] 48)).alloc (Obj.cells #[.bool xs, .int .i64 xk, .slice a2 xb.length c2] 31)).alloc (Obj.cells #[] 5)).heap.size = w1.heap.size + 3 := by simp
  simp only [World.size_alloc] at by1 by2
  generalize (((w1.alloc (Obj.cells #[.int .i64 (R'.most : Int), .slice a1 R'.items.length c1, .int .i64 (R'.lost : Int)] 48)).alloc (Obj.cells #[.bool xs, .int .i64 xk, .slice a2 xb.length c2] 31)).alloc (Obj.cells #[] 5)) = w2 at by0 by1 by2 ey sy ⊢
  have Sy := Lib.hid sy
  clear sy
  obtain ⟨v5, w5, hr5, hwin5, hk5, ho5⟩ := append_bytes w2 (w1.heap.size + 1 + 1) (.slice (some ⟨w1.heap.size + 1 + 1, 0, none⟩) 0 0) [] 29 (Win.empty (Nat.le_refl _) by2.lt) _ xb ((HV.out.ext HE1.out).ext ey) (by simp; omega) (by have := by2.lt; omega)
  simp only [List.nil_append] at hwin5
  obtain ⟨a5, d5, rfl⟩ := hwin5.len
  have hE5 : Ext w1 w5 := ey.then hk5 (fun i hi h2 => by have := own_eq h2; omega)
  have B0 := Lib.hid (by0.keeps hk5 (fun h2 => by have := own_eq h2; omega))
  have B1 := Lib.hid ((by1.keeps hk5 (fun h2 => by have := own_eq h2; omega)).set 2 (.slice a5 xb.length d5))
  have BR := Lib.hid (BX2.out.ext hE5)
  have BA := Lib.hid (BX1.out.ext hE5)
  have hb1 := (by1.keeps hk5 (fun h2 => by have := own_eq h2; omega))
  obtain ⟨p5, z5⟩ := hb1.reads
  have l5 := hb1.lt
  have HW5 := Lib.hid hwin5
  have HE5 := Lib.hid hE5
  have hh5 := hE5.size
  refine ⟨?_⟩
  clear p1 p2 z1 z2 by0 by1 by2 ey hk5 ho5 hwin5 hE5 hb1
  refine wpList_append_ran rfl _ _ hr5 rfl rfl rfl ?_
  clear hr5
  go_wp2_with fail
  have hs6 : Ext w1 (w5.setCell ⟨w1.heap.size + 1, 2, none⟩ (.slice a5 xb.length d5)) := HE5.out.setNew _ _ (by simp)
  have hk6 : Keeps (OneB (w1.heap.size + 1)) w5 (w5.setCell ⟨w1.heap.size + 1, 2, none⟩ (.slice a5 xb.length d5)) := (Keeps.refl _ _).setOne _ _
  generalize w5.setCell ⟨w1.heap.size + 1, 2, none⟩ (.slice a5 xb.length d5) = w6 at B1 hs6 hk6 ⊢
  replace B0 := Lib.hid (B0.out.keeps hk6 (fun h2 => by unfold OneB at h2; omega))
  replace BR := Lib.hid (BR.out.keeps hk6 (fun h2 => by unfold OneB at h2; omega))
  have hw6 := HW5.out.keeps hk6 (fun g hg h2 => by have := (HW5.out.block g hg).1; unfold OneB at h2; omega)
  have hr6 : RingX w6 (fun k => N k ∨ k = w.heap.size + 1 + 1 ∨ (w1.heap.size + 1 + 1 ≤ k ∧ k < w6.heap.size)) b R := HR.out.grow (Ext.keeps (HE1.out.ext hs6)) HNB.out (fun k hk => by
    rcases hk with hk | hk
    · exact .inl hk
    · exact .inr (by omega))
  have h56 := hk6.size
  clear p5 z5 l5
  refine (put_x (N := (fun k => N k ∨ k = w.heap.size + 1 + 1 ∨ (w1.heap.size + 1 + 1 ≤ k ∧ k < w6.heap.size))) (B := fun k => w1.heap.size + 1 + 1 ≤ k ∧ k < w5.heap.size) w6 b R R' ⟨xs, xk, xb⟩ _ n1 e1 _ _ HPUT.out rfl rfl hr6 ⟨_, rfl, (Bytes.of_win HW5.out).keeps hk6 (fun k hk h2 => by have := hk.1; unfold OneB at h2; omega)⟩ (fun hk => by have := hk.1; omega) (fun k hk => by
    rcases hk with hk | hk
    · have := HN.out k hk; omega
    · omega) hx hlost).mono ?_
  rintro e w7 ⟨rfl, hr7, hk7⟩
  replace B0 := Lib.hid (B0.out.keeps hk7 (fun h2 => by unfold OneB at h2; omega))
  replace B1 := Lib.hid (B1.out.keeps hk7 (fun h2 => by unfold OneB at h2; omega))
  replace BR := Lib.hid (BR.out.keeps hk7 (fun h2 => by unfold OneB at h2; omega))
  have HW7 := Lib.hid (hw6.keeps hk7 (fun g hg h2 => by have := (HW5.out.block g hg).1; unfold OneB at h2; omega))
  have HK7 := Lib.hid ((Ext.keeps hs6).trans hk7)
  have HR7 := Lib.hid hr7
  have h67 := hk7.size
  dsimp only [List.set_cons_zero, List.set_cons_succ] at B1
  clear hr6 hs6 hk6 hw6 hr7 hk7
  have hb71 := B1.out
  obtain ⟨c7, z7⟩ := hb71.reads
  have l7 := hb71.lt
  clear hb71
  go_wp2_with fail
  go_loopw [14] (fun i wr => ∃ (k : Nat) (l' : List UInt8), k ≤ xb.length ∧ i = .int .i64 k ∧ Hid (Win wr (w1.heap.size + 1 + 1) 1 (.slice a5 xb.length d5) xb.length (l'.map byV)) ∧ Hid (Keeps (fun g => w1.heap.size + 1 + 1 ≤ g ∧ g < w6.heap.size) w7 wr)) (fun i _ => xb.length - (intOf i).toNat)
  case atStart => exact ⟨0, xb, Nat.zero_le _, rfl, HW7, Lib.hid (Keeps.refl _ _)⟩
  case round =>
    obtain ⟨k, l', hk, rfl, hwin, hkp⟩ := hrel
    have B1r := B1.out.keeps hkp.out (fun h2 => by omega)
    obtain ⟨cr, zr⟩ := B1r.reads
    have lr := B1r.lt
    clear B1r c7 z7
    by_cases hlt : k < xb.length
    · obtain ⟨g, o, cap, hv, hg1, hg2, hg3, hg4⟩ := hwin.out.form (by omega)
      cases hv
      obtain ⟨-, ⟨h, -⟩ | ⟨g', o', cap', h, -, -, -, -, hth, -⟩⟩ := hwin.out
      · cases h
      cases h
      have hl' : l'.length = xb.length := by have := hwin.out.1; simpa using this
      have hc0 := hg4 k (byV l'[k]) (by simp [hl', hlt])
      have hf0 := (hth k (by omega)).2
      have hgw := hwin.out.block g rfl
      have hg56 : g < w6.heap.size := by have := (HW5.out.block g rfl).2; omega
      have hbump := byte_wrap l'[k]
      obtain ⟨d, hd⟩ : ∃ d, l'[k] + 1 = d := ⟨_, rfl⟩
      rw [hd] at hbump
      have HN1 := Lib.hid (hwin.out.bump k hlt d)
      have HK1 := Lib.hid (hkp.out.setCell ⟨g, o + k, none⟩ (byV d) (.inl ⟨hg1, hg56⟩))
      clear hwin hkp hg4 hth hgw hd
      generalize l'[k] = cc at hc0 hbump
      unfold byV at hc0
      go_wp2_with fail
      go_roundw
      case rel => exact ⟨k + 1, l'.set k d, by omega, by go_num, HN1, HK1⟩
      case measure => simp [intOf]; omega
    · go_wp2_with fail
      have b0r := B0.out.keeps hkp.out (fun h2 => by omega)
      have brr := BR.out.keeps hkp.out (fun h2 => by omega)
      obtain ⟨c0, z0⟩ := b0r.reads
      obtain ⟨c1', z1'⟩ := brr.reads
      have l0r := b0r.lt
      have l1r := brr.lt
      have HBR := Lib.hid brr
      have HKP := Lib.hid hkp.out
      have hne : ¬ w1.heap.size = w.heap.size + 1 + 1 := by omega
      clear b0r brr hwin hkp
      have hE0 : Keeps NoB wr wr.drew := (Keeps.refl _ _).drew
      refine wp_region_plan [(1, 0), (0, 1), (0, 2), (0, 3), (0, 4), (0, 5), (0, 7), (2, 6), (0, 8), (0, 9)] [0] [6, 10, 11] [10, 11] (ClsE wr) (by kernel_rfl) (by kernel_rfl) (by kernel_rfl) rfl rfl (ClsE.of hE0) (fun _ _ _ d _ h => by cases d <;> exact h) ?_; simp only [planL, List.getElem?_toArray, List.getElem?_cons_succ, List.getElem?_cons_zero]
      refine plan_load rfl (fun K hK => quiet_runE (v := ?_) (fun W => ?_) (hK _ ?_)); rotate_left; (go_simp <;> with_reducible rfl); clear hK K; simp only [Act.put, List.setIfInBounds_toArray, List.set_cons_zero, List.set_cons_succ]
      refine plan_pure rfl (fun K hK => quiet_move' _ rfl (hK _ ?_)); clear hK K; simp only [Act.put, Act.eval, Array.getD_eq_getD_getElem?, List.getElem?_toArray, List.getElem?_cons_zero, List.getElem?_cons_succ, Option.getD_some, List.setIfInBounds_toArray, List.set_cons_zero, List.set_cons_succ]
      refine plan_pure rfl (fun K hK => quiet_move' _ rfl (hK _ ?_)); clear hK K; simp only [Act.put, Act.eval, Array.getD_eq_getD_getElem?, List.getElem?_toArray, List.getElem?_cons_zero, List.getElem?_cons_succ, Option.getD_some, List.setIfInBounds_toArray, List.set_cons_zero, List.set_cons_succ]
      refine plan_pure rfl (fun K hK => quiet_run (v := ?_) (fun W _ => ?_) (hK _ ?_)); rotate_left; (go_simp <;> with_reducible rfl); clear hK K; simp only [Act.put, List.setIfInBounds_toArray, List.set_cons_zero, List.set_cons_succ]
      refine plan_pure rfl (fun K hK => quiet_move' _ rfl (hK _ ?_)); clear hK K; simp only [Act.put, Act.eval, Array.getD_eq_getD_getElem?, List.getElem?_toArray, List.getElem?_cons_zero, List.getElem?_cons_succ, Option.getD_some, List.setIfInBounds_toArray, List.set_cons_zero, List.set_cons_succ]
      first
      | (refine plan_skip rfl ?_; simp only [Act.put, List.setIfInBounds_toArray, List.set_cons_zero, List.set_cons_succ])
      | (refine plan_pure rfl (fun K hK => quiet_move' _ rfl (hK _ ?_)); clear hK K; simp only [Act.put, Act.eval, Array.getD_eq_getD_getElem?, List.getElem?_toArray, List.getElem?_cons_zero, List.getElem?_cons_succ, Option.getD_some, List.setIfInBounds_toArray, List.set_cons_zero, List.set_cons_succ])
      first
      | (refine plan_skip rfl ?_; simp only [Act.put, List.setIfInBounds_toArray, List.set_cons_zero, List.set_cons_succ])
      | (refine plan_pure rfl (fun K hK => quiet_move' _ rfl (hK _ ?_)); clear hK K; simp only [Act.put, Act.eval, Array.getD_eq_getD_getElem?, List.getElem?_toArray, List.getElem?_cons_zero, List.getElem?_cons_succ, Option.getD_some, List.setIfInBounds_toArray, List.set_cons_zero, List.set_cons_succ])
      first
      | (refine plan_skip rfl ?_; simp only [Act.put, List.setIfInBounds_toArray, List.set_cons_zero, List.set_cons_succ])
      | (refine plan_does rfl (fun K hK => ?_))
      go_wp2_with fail
      refine (num_any _ _).mono ?_
      rintro e w' ⟨rfl, rfl⟩
      refine hK _ _ ⟨ClsE.of (by assumption), ?_⟩; clear hK K; try simp only [Act.put, List.setIfInBounds_toArray, List.set_cons_zero, List.set_cons_succ]
      first
      | (refine plan_skip rfl ?_; simp only [Act.put, List.setIfInBounds_toArray, List.set_cons_zero, List.set_cons_succ])
      | (refine plan_pure rfl (fun K hK => quiet_run (v := ?_) (fun W _ => ?_) (hK _ ?_)); rotate_left; (go_simp <;> with_reducible rfl); clear hK K; simp only [Act.put, List.setIfInBounds_toArray, List.set_cons_zero, List.set_cons_succ])
      refine plan_pure rfl (fun K hK => quiet_run (v := ?_) (fun W _ => ?_) (hK _ ?_)); rotate_left; (go_simp <;> with_reducible rfl); clear hK K; simp only [Act.put, List.setIfInBounds_toArray, List.set_cons_zero, List.set_cons_succ]
      refine plan_nil ?_; simp only [tailL, List.filterMap_cons, List.filterMap_nil, List.getElem?_toArray, List.getElem?_cons_succ, List.getElem?_cons_zero]; change wpList _ _ _ (_ :: _ :: []) _ _
      go_wp2_with fail
      have r1 := (((HBR.out.set 0 (.int .i64 (R'.most : Int))).set 1 (.slice a1 R'.items.length c1)).set 2 (.int .i64 (R'.lost : Int))).reads.1
      dsimp only [List.set_cons_zero, List.set_cons_succ] at r1
      clear c0 c1' z0 z1' cr zr
      refine bodyPost_ret (v := .tuple #[.agg #[.int .i64 (R'.most : Int), .slice a1 R'.items.length c1, .int .i64 (R'.lost : Int)], .bool true]) (by simp [results, Try.results20, go_sem, r1]) rfl ?_
      have hfin : Keeps (fun k => k = b ∨ k = w.heap.size + 1 + 1) wr ((((wr.setCell ⟨w.heap.size + 1 + 1, 0, none⟩ (.int .i64 (R'.most : Int))).setCell ⟨w.heap.size + 1 + 1, 1, none⟩ (.slice a1 R'.items.length c1)).setCell ⟨w.heap.size + 1 + 1, 2, none⟩ (.int .i64 (R'.lost : Int))).drew) :=
        ((((Keeps.refl _ wr).setCell _ _ (.inl (.inr rfl))).setCell _ _ (.inl (.inr rfl))).setCell _ _ (.inl (.inr rfl))).drew
      have h1r : Keeps (OneB b) w1 wr := HK7.out.then HKP.out (fun i hi h2 => by have := h2.1; omega)
      have h1f := (h1r.mono (T := fun k => k = b ∨ k = w.heap.size + 1 + 1) (fun k _ h => .inl h)).trans hfin
      refine ⟨_, rfl, ?_, ?_, ?_⟩
      · unfold AR.act
        rw [if_pos rfl, HPUT.out]
        exact (HX1.out.keeps h1f (fun k _ hk => by
          rcases hk with rfl | rfl
          · exact .inl HMB.out
          · exact .inr rfl)).less (fun k hk => .inl hk)
      · unfold AR.act
        rw [if_pos rfl, HPUT.out]
        have h7f : Keeps (fun k => k = w.heap.size + 1 + 1 ∨ (w1.heap.size + 1 + 1 ≤ k ∧ k < w6.heap.size)) w7 ((((wr.setCell ⟨w.heap.size + 1 + 1, 0, none⟩ (.int .i64 (R'.most : Int))).setCell ⟨w.heap.size + 1 + 1, 1, none⟩ (.slice a1 R'.items.length c1)).setCell ⟨w.heap.size + 1 + 1, 2, none⟩ (.int .i64 (R'.lost : Int))).drew) :=
          (HKP.out.mono (fun _ _ h => Or.inr h)).trans (((((Keeps.refl _ wr).setCell _ _ (.inl (.inl rfl))).setCell _ _ (.inl (.inl rfl))).setCell _ _ (.inl (.inl rfl))).drew)
        exact (HR7.out.keeps h7f (fun k h => .inr h) (by omega)).less (fun k hk => .inl hk)
      · exact (Ext.keeps HE1.out : Keeps (OneB b) w w1).then h1f (fun i hi h2 => by
          rcases h2 with h2 | h2
          · exact h2
          · omega)
end Go.Proofs.Ytocjnieehogcbaa
