/- The net statements' call by both, the program and the document: Peek. They tell the same, and stand alike behind it. Conditions: the net lies as 'NetX' says, the document's as 'RefX' says. -/
import Derived.Test.YtdiogipdcpiffaaNActA
set_option linter.unusedVariables false
set_option maxHeartbeats 400000
set_option maxRecDepth 10000
namespace Go.Proofs.Ytdiogipdcpiffaa
open Go.RowKit

theorem NA.peek_len {N : NA} {f t p : Int} {x : Pc} {e n : Nat} (hr : N.peekR f t p = (x, e)) (h : ∀ y ∈ N.l, y.bytes.length ≤ n) : x.bytes.length ≤ n := by
  unfold NA.peekR at hr
  split at hr
  · rename_i h0
    injection hr with h1 h2; subst h1
    unfold NA.got
    cases hg : N.l[N.iOf f t p]? with
    | none => exact Nat.zero_le _
    | some z => exact h z (List.mem_of_getElem? hg)
  · injection hr with h1 h2; subst h1
    exact Nat.zero_le _
set_option maxHeartbeats 8000000 in
theorem act_peek {F M B : Nat → Prop} (w : World) (b : Nat) (N : NA) (vw bv : Value) (x : Ac) (k : Nat) (hn : NetX w F M b N) (hr : RefX w M vw N) (hb : Bytes w B bv x.bytes) (hx : x.ok) (hxl : x.bytes.length ≤ 200) (hbd : NB N k) (hk : k ≤ 1000) (hw : x.what = 1) :
    Calls Try.prog 18 #[.pointer (some ⟨b, 0, none⟩), vw, .agg #[.int .i64 x.what, .int .i64 x.src, .int .i64 x.dst, .int .i64 x.pick, bv, .bool x.is]] w (ActPost w F M b N x) := by
  obtain ⟨a, c, a', c', rfl⟩ := hr.len
  obtain ⟨a2, c2, rfl⟩ := hb.len
  obtain ⟨xw, xs, xd, xp, xb, xi⟩ := x
  dsimp only at hw hx hxl hb ⊢
  have HN := Lib.hid hn
  have HR := Lib.hid hr
  have HV := Lib.hid hb
  have HX := Lib.hid hx
  have HBD := Lib.hid hbd
  have HMw : Hid (∀ k, M k → k < w.heap.size) := Lib.hid hn.below
  have hbw := hn.lt
  clear hn hr hb hx hbd
  subst hw
  obtain ⟨r, hput⟩ : ∃ r, N.peekR xs xd xp = r := ⟨_, rfl⟩
  obtain ⟨y, e⟩ := r
  have hact : N.act ⟨1, xs, xd, xp, xb, xi⟩ = N := rfl
  have HPUT := Lib.hid hput
  have hyl : y.bytes.length ≤ 8192 := NA.peek_len hput (fun z hz => (HN.out.ok z hz).1)
  unfold ActPost
  rw [hact]
  clear hput hact
  go_enter Try.func18, Try.ntmps18
  go_wp2_with fail
  have bx0 := (((Box.new w 41 [.int .i64 (N.ends : Int), .int .i64 (N.most : Int), .int .i64 (N.came : Int), .slice a N.l.length c, .slice a' N.downs.length c']).alloc (Obj.cells #[.int .i64 1, .int .i64 xs, .int .i64 xd, .int .i64 xp, .slice a2 xb.length c2, .bool xi] 36)).alloc (Obj.cells #[.int .i64 0, .int .i64 0, .int .i64 0, .slice none 0 0, .slice none 0 0] 41))
  have bx1 := ((Box.new (w.alloc (Obj.cells #[.int .i64 (N.ends : Int), .int .i64 (N.most : Int), .int .i64 (N.came : Int), .slice a N.l.length c, .slice a' N.downs.length c'] 41)) 36 [.int .i64 1, .int .i64 xs, .int .i64 xd, .int .i64 xp, .slice a2 xb.length c2, .bool xi]).alloc (Obj.cells #[.int .i64 0, .int .i64 0, .int .i64 0, .slice none 0 0, .slice none 0 0] 41))
  have bx2 := (Box.new ((w.alloc (Obj.cells #[.int .i64 (N.ends : Int), .int .i64 (N.most : Int), .int .i64 (N.came : Int), .slice a N.l.length c, .slice a' N.downs.length c'] 41)).alloc (Obj.cells #[.int .i64 1, .int .i64 xs, .int .i64 xd, .int .i64 xp, .slice a2 xb.length c2, .bool xi] 36)) 41 [.int .i64 0, .int .i64 0, .int .i64 0, .slice none 0 0, .slice none 0 0])
  have ex : Ext w (((w.alloc (Obj.cells #[.int .i64 (N.ends : Int), .int .i64 (N.most : Int), .int .i64 (N.came : Int), .slice a N.l.length c, .slice a' N.downs.length c'] 41)).alloc (Obj.cells #[.int .i64 1, .int .i64 xs, .int .i64 xd, .int .i64 xp, .slice a2 xb.length c2, .bool xi] 36)).alloc (Obj.cells #[.int .i64 0, .int .i64 0, .int .i64 0, .slice none 0 0, .slice none 0 0] 41)) := ((((Keeps.refl NoB w).alloc _).alloc _).alloc _)
  have sx : (((w.alloc (Obj.cells #[.int .i64 (N.ends : Int), .int .i64 (N.most : Int), .int .i64 (N.came : Int), .slice a N.l.length c, .slice a' N.downs.length c'] 41)).alloc (Obj.cells #[.int .i64 1, .int .i64 xs, .int .i64 xd, .int .i64 xp, .slice a2 xb.length c2, .bool xi] 36)).alloc (Obj.cells #[.int .i64 0, .int .i64 0, .int .i64 0, .slice none 0 0, .slice none 0 0] 41)).heap.size = w.heap.size + 3 := by simp
  simp only [World.size_alloc] at bx1 bx2
  generalize (((w.alloc (Obj.cells #[.int .i64 (N.ends : Int), .int .i64 (N.most : Int), .int .i64 (N.came : Int), .slice a N.l.length c, .slice a' N.downs.length c'] 41)).alloc (Obj.cells #[.int .i64 1, .int .i64 xs, .int .i64 xd, .int .i64 xp, .slice a2 xb.length c2, .bool xi] 36)).alloc (Obj.cells #[.int .i64 0, .int .i64 0, .int .i64 0, .slice none 0 0, .slice none 0 0] 41)) = w0 at bx0 bx1 bx2 ex sx ⊢
  have Sx := Lib.hid sx
  clear sx
  have hs0 := bx2.lt
  have HR0 : Hid (RefX w0 (fun k => M k ∨ k = w.heap.size + 1 + 1) _ N) := Lib.hid (HR.out.more ex (fun k hk => hk.imp id (fun h => by omega)))
  have HN0 : Hid (NetX w0 F (fun k => M k ∨ k = w.heap.size + 1 + 1) b N) := Lib.hid (HN.out.more ex (fun k hk => .inl hk) (fun k hk => hk.imp id (fun h => by omega)))
  have HM0 : Hid (∀ k, M k ∨ k = w.heap.size + 1 + 1 → k < w0.heap.size) := Lib.hid (fun k hk => hk.elim (fun h => by have := HMw.out k h; omega) (fun h => by omega))
  have B0 := Lib.hid bx0
  have B1 := Lib.hid bx1
  have B2 := Lib.hid bx2
  have HE := Lib.hid ex
  clear ex bx0 bx1 bx2
  obtain ⟨cB0, zB0⟩ := B0.out.reads
  have lB0 := B0.out.lt
  obtain ⟨cB1, zB1⟩ := B1.out.reads
  have lB1 := B1.out.lt
  obtain ⟨cB2, zB2⟩ := B2.out.reads
  have lB2 := B2.out.lt
  go_wp2_with fail
  refine (rpeekX (M := fun k => M k ∨ k = w.heap.size + 1 + 1) w0 _ N xs xd xp HR0.out HX.out.2.2 HBD.out hk y e e HPUT.out rfl).mono ?_
  rintro r w1 ⟨vx, rfl, hx1, hE1⟩
  obtain ⟨ay, ny, rfl, hyb⟩ := hx1.form
  have HX1 := Lib.hid hx1
  clear cB0 zB0 lB0 cB1 zB1 lB1 cB2 zB2 lB2
  have h01 := hE1.size
  replace HE := Lib.hid (HE.out.ext hE1)
  replace B0 := Lib.hid (B0.out.ext hE1)
  replace B1 := Lib.hid (B1.out.ext hE1)
  replace B2 := Lib.hid (B2.out.ext hE1)
  replace HN0 := Lib.hid (HN0.out.ext hE1)
  replace HR0 := Lib.hid (HR0.out.ext hE1)
  clear hyb hx1 hE1
  obtain ⟨cB0, zB0⟩ := B0.out.reads
  have lB0 := B0.out.lt
  obtain ⟨cB1, zB1⟩ := B1.out.reads
  have lB1 := B1.out.lt
  obtain ⟨cB2, zB2⟩ := B2.out.reads
  have lB2 := B2.out.lt
  go_wp2_with fail
  clear cB0 zB0 lB0 cB1 zB1 lB1 cB2 zB2 lB2
  have bp0 := (Box.new w1 50 [.int .i64 (y.num : Int), .int .i64 y.src, .int .i64 y.dst, .slice ay y.bytes.length ny])
  have ep : Ext w1 (w1.alloc (Obj.cells #[.int .i64 (y.num : Int), .int .i64 y.src, .int .i64 y.dst, .slice ay y.bytes.length ny] 50)) := ((Keeps.refl NoB w1).alloc _)
  have sp : (w1.alloc (Obj.cells #[.int .i64 (y.num : Int), .int .i64 y.src, .int .i64 y.dst, .slice ay y.bytes.length ny] 50)).heap.size = w1.heap.size + 1 := by simp
  generalize (w1.alloc (Obj.cells #[.int .i64 (y.num : Int), .int .i64 y.src, .int .i64 y.dst, .slice ay y.bytes.length ny] 50)) = w2 at bp0 ep sp ⊢
  have Sp := Lib.hid sp
  clear sp
  have D0 := Lib.hid bp0
  have h12 := ep.size
  replace HE := Lib.hid (HE.out.ext ep)
  replace B0 := Lib.hid (B0.out.ext ep)
  replace B1 := Lib.hid (B1.out.ext ep)
  replace B2 := Lib.hid (B2.out.ext ep)
  replace HN0 := Lib.hid (HN0.out.ext ep)
  replace HR0 := Lib.hid (HR0.out.ext ep)
  replace HX1 := Lib.hid (HX1.out.ext ep)
  clear ep bp0
  refine (peek_any w2 b N xs xd xp HN0.out HX.out.2.2 y e e HPUT.out rfl).mono ?_
  rintro r w3 ⟨bz, rfl, hz, hwz, hE3⟩
  obtain ⟨az, nz, rfl⟩ := hz.len
  have HZ := Lib.hid hz
  have HWZ := Lib.hid hwz
  have h23 := hE3.size
  have HN3 : Hid (NetX w3 F (fun k => (M k ∨ k = w.heap.size + 1 + 1) ∨ (w2.heap.size ≤ k ∧ k < w3.heap.size)) b N) := Lib.hid (HN0.out.more hE3 (fun k hk => .inl hk) (fun k hk => hk))
  have HR3 : Hid (RefX w3 (fun k => (M k ∨ k = w.heap.size + 1 + 1) ∨ (w2.heap.size ≤ k ∧ k < w3.heap.size)) _ N) := Lib.hid (HR0.out.more hE3 (fun k hk => hk.imp id (fun h => h.1)))
  replace HE := Lib.hid (HE.out.ext hE3)
  replace B0 := Lib.hid (B0.out.ext hE3)
  replace B1 := Lib.hid (B1.out.ext hE3)
  replace B2 := Lib.hid (B2.out.ext hE3)
  replace HX1 := Lib.hid (HX1.out.ext hE3)
  replace D0 := Lib.hid (D0.out.ext hE3)
  clear hz hwz hE3 HN0 HR0
  obtain ⟨cB0, zB0⟩ := B0.out.reads
  have lB0 := B0.out.lt
  obtain ⟨cB1, zB1⟩ := B1.out.reads
  have lB1 := B1.out.lt
  obtain ⟨cB2, zB2⟩ := B2.out.reads
  have lB2 := B2.out.lt
  obtain ⟨cD0, zD0⟩ := D0.out.reads
  have lD0 := D0.out.lt
  go_wp2_with fail
  clear cB0 zB0 lB0 cB1 zB1 lB1 cB2 zB2 lB2 cD0 zD0 lD0
  have bq0 := (Box.new w3 50 [.int .i64 (y.num : Int), .int .i64 y.src, .int .i64 y.dst, .slice az y.bytes.length nz])
  have eq : Ext w3 (w3.alloc (Obj.cells #[.int .i64 (y.num : Int), .int .i64 y.src, .int .i64 y.dst, .slice az y.bytes.length nz] 50)) := ((Keeps.refl NoB w3).alloc _)
  have sq : (w3.alloc (Obj.cells #[.int .i64 (y.num : Int), .int .i64 y.src, .int .i64 y.dst, .slice az y.bytes.length nz] 50)).heap.size = w3.heap.size + 1 := by simp
  generalize (w3.alloc (Obj.cells #[.int .i64 (y.num : Int), .int .i64 y.src, .int .i64 y.dst, .slice az y.bytes.length nz] 50)) = w4 at bq0 eq sq ⊢
  have Sq := Lib.hid sq
  clear sq
  have D1 := Lib.hid bq0
  have h34 := eq.size
  have HWZ4 := Lib.hid (WrN.keeps HZ.out HWZ.out eq (fun k hk => ⟨noB _, hk.2⟩))
  replace HE := Lib.hid (HE.out.ext eq)
  replace B0 := Lib.hid (B0.out.ext eq)
  replace B1 := Lib.hid (B1.out.ext eq)
  replace B2 := Lib.hid (B2.out.ext eq)
  replace HN3 := Lib.hid (HN3.out.ext eq)
  replace HR3 := Lib.hid (HR3.out.ext eq)
  replace HX1 := Lib.hid (HX1.out.ext eq)
  replace D0 := Lib.hid (D0.out.ext eq)
  have HZ4 := Lib.hid (HZ.out.ext eq)
  clear eq bq0 HZ HWZ
  refine (same_par w4 y y _ _ HX1.out ⟨_, rfl, HZ4.out⟩).mono ?_
  rintro r w5 ⟨rfl, hE5⟩
  rw [sameP_self]
  have h45 := hE5.size
  have HWZ5 := Lib.hid (WrN.keeps HZ4.out HWZ4.out hE5 (fun k hk => ⟨noB _, by have := hk.2; omega⟩))
  replace HE := Lib.hid (HE.out.ext hE5)
  replace B0 := Lib.hid (B0.out.ext hE5)
  replace B1 := Lib.hid (B1.out.ext hE5)
  replace B2 := Lib.hid (B2.out.ext hE5)
  replace HN3 := Lib.hid (HN3.out.ext hE5)
  replace HR3 := Lib.hid (HR3.out.ext hE5)
  replace HZ4 := Lib.hid (HZ4.out.ext hE5)
  replace D0 := Lib.hid (D0.out.ext hE5)
  replace D1 := Lib.hid (D1.out.ext hE5)
  clear hE5 HWZ4
  obtain ⟨cB0, zB0⟩ := B0.out.reads
  have lB0 := B0.out.lt
  obtain ⟨cB1, zB1⟩ := B1.out.reads
  have lB1 := B1.out.lt
  obtain ⟨cB2, zB2⟩ := B2.out.reads
  have lB2 := B2.out.lt
  obtain ⟨cD0, zD0⟩ := D0.out.reads
  have lD0 := D0.out.lt
  obtain ⟨cD1, zD1⟩ := D1.out.reads
  have lD1 := D1.out.lt
  go_wp2_with fail
  refine (num_any _ _).mono ?_
  rintro r w6 ⟨rfl, rfl⟩
  go_wp2_with fail
  clear cB0 zB0 lB0 cB1 zB1 lB1 cB2 zB2 lB2 cD0 zD0 lD0 cD1 zD1 lD1
  go_loopw [20] (fun i wr => ∃ (j : Nat) (l' : List UInt8), j ≤ y.bytes.length ∧ i = .int .i64 j ∧ Hid (l'.length = y.bytes.length ∧ Bytes wr (fun g => w2.heap.size ≤ g ∧ g < w3.heap.size) (.slice az y.bytes.length nz) l' ∧ WrN wr (.slice az y.bytes.length nz)) ∧ Hid (Keeps (fun g => w2.heap.size ≤ g ∧ g < w3.heap.size) w5 wr)) (fun i _ => y.bytes.length - (intOf i).toNat)
  case atStart => exact ⟨0, y.bytes, Nat.zero_le _, rfl, Lib.hid ⟨rfl, HZ4.out, HWZ5.out⟩, Lib.hid (Keeps.refl _ _)⟩
  case round =>
    obtain ⟨j, l', hj, rfl, hrow, hkp⟩ := hrel
    obtain ⟨hll, hby, hwy⟩ := hrow.out
    have h5r := hkp.out.size
    have R0 := Lib.hid (B0.out.keeps hkp.out (fun h => by have := h.1; omega))
    have R1 := Lib.hid (B1.out.keeps hkp.out (fun h => by have := h.1; omega))
    have R2 := Lib.hid (B2.out.keeps hkp.out (fun h => by have := h.1; omega))
    have R3 := Lib.hid (D1.out.keeps hkp.out (fun h => by have := h.1; omega))
    clear B0 B1 B2 D0 D1
    obtain ⟨cR0, zR0⟩ := R0.out.reads
    have lR0 := R0.out.lt
    obtain ⟨cR1, zR1⟩ := R1.out.reads
    have lR1 := R1.out.lt
    obtain ⟨cR2, zR2⟩ := R2.out.reads
    have lR2 := R2.out.lt
    obtain ⟨cR3, zR3⟩ := R3.out.reads
    have lR3 := R3.out.lt
    by_cases hlt : j < y.bytes.length
    · rcases hby with ⟨a', h1, h2⟩ | ⟨g, o, cap, h1, h2, h3, h4⟩
      · subst h2; simp at hll; omega
      · simp only [Value.slice.injEq] at h1
        obtain ⟨rfl, -, rfl⟩ := h1
        have hf0 := hwy g o y.bytes.length nz rfl j hlt
        have hjl : j < l'.length := by omega
        have hc0 := h4 j hjl
        have hgw : g < wr.heap.size := by have := h3.2; omega
        unfold ByteAt at hc0
        simp only [Nat.mul_one] at hc0
        have hbump := byte_wrap l'[j]
        obtain ⟨d, hd⟩ : ∃ d, l'[j] + 1 = d := ⟨_, rfl⟩
        rw [hd] at hbump
        have HN1 := Lib.hid (Bytes.bump (Or.inr ⟨g, o, nz, by rw [hll], by rw [hll]; omega, h3, h4⟩ : Bytes wr (fun g => w2.heap.size ≤ g ∧ g < w3.heap.size) (.slice (some ⟨g, o, none⟩) y.bytes.length nz) l') j hjl d)
        have HN2 := Lib.hid (WrN.set hwy ⟨g, o + j, none⟩ (byV d))
        have HK1 := Lib.hid (hkp.out.setCell ⟨g, o + j, none⟩ (byV d) (.inl h3))
        have HLL := Lib.hid hll
        clear hrow hkp h4 hwy hd hll
        generalize l'[j] = cc at hc0 hbump
        unfold byV at hc0
        go_wp2_with fail
        go_roundw
        case rel => exact ⟨j + 1, l'.set j d, by omega, by go_num, Lib.hid ⟨by rw [List.length_set]; exact HLL.out, HN1.out, HN2.out⟩, HK1⟩
        case measure => simp [intOf]; omega
    · have HKP := Lib.hid hkp.out
      clear hrow hkp hby hwy hll
      go_wp2_with fail
      clear cR0 zR0 lR0 cR1 zR1 lR1 cR2 zR2 lR2 cR3 zR3 lR3
      have q1 := ((((((R2.out.set 0 (.int .i64 (NA.ends N : Int))).set 1 (.int .i64 (NA.most N : Int))).set 2 (.int .i64 (NA.came N : Int))).set 3 (.slice a N.l.length c))).set 4 (.slice a' N.downs.length c'))
      dsimp only [List.set_cons_zero, List.set_cons_succ] at q1
      have hk : Keeps (OneB (w.heap.size + 1 + 1)) wr (((((wr.setCell ⟨(w.heap.size + 1 + 1), 0, none⟩ (.int .i64 (NA.ends N : Int))).setCell ⟨(w.heap.size + 1 + 1), 1, none⟩ (.int .i64 (NA.most N : Int))).setCell ⟨(w.heap.size + 1 + 1), 2, none⟩ (.int .i64 (NA.came N : Int))).setCell ⟨(w.heap.size + 1 + 1), 3, none⟩ (.slice a N.l.length c)).setCell ⟨(w.heap.size + 1 + 1), 4, none⟩ (.slice a' N.downs.length c')) :=
        (((((Keeps.refl _ _).setOne _ _).setOne _ _).setOne _ _).setOne _ _).setOne _ _
      have q2 := q1.reads.1
      generalize (((((wr.setCell ⟨(w.heap.size + 1 + 1), 0, none⟩ (.int .i64 (NA.ends N : Int))).setCell ⟨(w.heap.size + 1 + 1), 1, none⟩ (.int .i64 (NA.most N : Int))).setCell ⟨(w.heap.size + 1 + 1), 2, none⟩ (.int .i64 (NA.came N : Int))).setCell ⟨(w.heap.size + 1 + 1), 3, none⟩ (.slice a N.l.length c)).setCell ⟨(w.heap.size + 1 + 1), 4, none⟩ (.slice a' N.downs.length c')) = w9 at q1 q2 hk ⊢
      have hks := hk.size
      refine bodyPost_ret (v := .tuple #[.agg #[.int .i64 (N.ends : Int), .int .i64 (N.most : Int), .int .i64 (N.came : Int), .slice a N.l.length c, .slice a' N.downs.length c'], .bool true]) (by simp [results, Try.results18, go_sem, q2]) rfl ?_
      have hloc : Keeps (fun g => g = w.heap.size + 1 + 1 ∨ w2.heap.size ≤ g ∧ g < w3.heap.size) w5 w9 := (HKP.out.mono (fun _ _ h => Or.inr h)).then hk (fun i hi h => .inl h)
      have hsz := HE.out.size
      have hFw : ∀ k, F k → k < w.heap.size := fun k hk => HMw.out k (HN.out.FM k hk)
      have hin : ∀ k, (k = w.heap.size + 1 + 1 ∨ w2.heap.size ≤ k ∧ k < w3.heap.size) → (M k ∨ k = w.heap.size + 1 + 1) ∨ (w2.heap.size ≤ k ∧ k < w3.heap.size) := fun k h => h.elim (fun h => .inl (.inr h)) .inr
      refine ⟨F, (fun k => (M k ∨ k = w.heap.size + 1 + 1) ∨ (w2.heap.size ≤ k ∧ k < w3.heap.size)), _, rfl, ?_, ?_, ?_⟩
      · refine HN3.out.keeps hloc (fun k hk h => ?_) (fun k hk h => hin k h)
        have := hFw k hk
        omega
      · exact HR3.out.go hloc (fun k hk h => hin k h) (fun k hk => .inl hk)
      · refine ⟨?_, fun k hk => .inl hk, fun k hk => ?_, fun k hk => .inl (.inl hk)⟩
        · exact (Ext.keeps HE.out).then hloc (fun i hi h => by omega)
        · rcases hk with (h | h) | h
          · exact .inl h
          · exact .inr (by omega)
          · exact .inr (by omega)
end Go.Proofs.Ytdiogipdcpiffaa
