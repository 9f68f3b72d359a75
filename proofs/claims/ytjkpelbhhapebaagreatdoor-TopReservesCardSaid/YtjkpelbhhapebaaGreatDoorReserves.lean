/-
  The walk of TopReserves. No condition.
-/
import Derived.Test.YtjkpelbhhapebaaGreatDoorTWpo
import Derived.Deep.CutRange
namespace Go.Proofs.YtjkpelbhhapebaaGreatDoor
open Go.RowKit
set_option maxRecDepth 100000
/-- A step of the script. -/
structure At where
  nx : Int
  pl : Bool
  sv : Int
  ty : Int
  key : Int
  act : Int
  ap : Bool
  fill : Int
instance : Inhabited At := ⟨⟨0, false, 0, 0, 0, 0, false, 0⟩⟩
def encT (x : At) : List Value := [.int .u8 x.nx, .bool x.pl, .int .u8 x.sv, .int .u8 x.ty, .int .u64 x.key, .int .u64 x.act, .bool x.ap, .int .u8 x.fill]
def OkAt (x : At) : Prop := (0 ≤ x.nx ∧ x.nx ≤ 255) ∧ (0 ≤ x.sv ∧ x.sv ≤ 255) ∧ (0 ≤ x.ty ∧ x.ty ≤ 255) ∧ 0 ≤ x.key ∧ 0 ≤ x.act ∧ 0 ≤ x.fill ∧ x.fill ≤ 255
abbrev caT (x : At) : Array Value := #[.int .u8 x.nx, .bool x.pl, .int .u8 x.sv, .int .u8 x.ty, .int .u64 x.key, .int .u64 x.act, .bool x.ap, .int .u8 x.fill]
abbrev z45 : Array Value := #[(.int .u8 0 : Value), .bool false, .int .u8 0, .int .u8 0, .int .u64 0, .int .u64 0, .bool false, .int .u8 0]
theorem new45 : New 45 z45 := fun w => by kernel_rfl
theorem size45 : (Tryz.prog.info? 45).map (·.size) = some 8 := by kernel_rfl
theorem caT_one (x : At) : (caT x).all (·.oneCell') = true :=
  all_oneCell_toArray (cs := encT x) (fun u hu => by
    simp only [encT, List.mem_cons, List.not_mem_nil, or_false] at hu
    rcases hu with rfl | rfl | rfl | rfl | rfl | rfl | rfl | rfl <;> rfl)
theorem caT_cells {w : World} {g : Nat} {x : At} (h : w.heap[g]? = some (.cells (caT x) 45 (0, 0))) :
    w.cell? ⟨g, 0, none⟩ = some (.int .u8 x.nx) ∧ w.cell? ⟨g, 1, none⟩ = some (.bool x.pl) ∧ w.cell? ⟨g, 2, none⟩ = some (.int .u8 x.sv) ∧ w.cell? ⟨g, 3, none⟩ = some (.int .u8 x.ty) ∧ w.cell? ⟨g, 4, none⟩ = some (.int .u64 x.key) ∧ w.cell? ⟨g, 5, none⟩ = some (.int .u64 x.act) ∧ w.cell? ⟨g, 7, none⟩ = some (.int .u8 x.fill) := by
  refine ⟨?_, ?_, ?_, ?_, ?_, ?_, ?_⟩ <;> rw [cell_of_row w g _ _ 45 (0, 0) h] <;> rfl
theorem tb0_ok : TOk 0 tb0 := ⟨.inl rfl, Nat.le_refl _, fun _ hr => (List.not_mem_nil hr).elim, rfl⟩
abbrev z6 (x : At) : Obj := .cells (caT x) 45 (0, 0)
theorem make24 (w : World) : (Instr.makeSlice 22 (.int .i64 24) (.int .i64 24)).run Tryz.prog w = .ok (.slice (some ⟨w.heap.size, 0, none⟩) 24 24) (w.alloc (.cells #[(.int .u8 0 : Value), .int .u8 0, .int .u8 0, .int .u8 0, .int .u8 0, .int .u8 0, .int .u8 0, .int .u8 0, .int .u8 0, .int .u8 0, .int .u8 0, .int .u8 0, .int .u8 0, .int .u8 0, .int .u8 0, .int .u8 0, .int .u8 0, .int .u8 0, .int .u8 0, .int .u8 0, .int .u8 0, .int .u8 0, .int .u8 0, .int .u8 0] 5)) := by kernel_rfl
def plL (k a : Int) : List Int := [0, 0, 0, 0, 0, 0, 0, k, 0, 0, 0, 0, 0, 0, 0, a, 0, 0, 0, 0, 0, 0, 0, 0]
theorem plL_odd (k a : Int) (hk : 0 ≤ k ∧ k ≤ 255) (ha : 0 ≤ a ∧ a ≤ 255) (i : Nat) (hi : i < 24) : oddB (plL k a) maskL i = 0 := by
  rcases (by omega : i = 7 ∨ i = 15 ∨ i = 0 ∨ i = 1 ∨ i = 2 ∨ i = 3 ∨ i = 4 ∨ i = 5 ∨ i = 6 ∨ i = 8 ∨ i = 9 ∨ i = 10 ∨ i = 11 ∨ i = 12 ∨ i = 13 ∨ i = 14 ∨ i = 16 ∨ i = 17 ∨ i = 18 ∨ i = 19 ∨ i = 20 ∨ i = 21 ∨ i = 22 ∨ i = 23) with rfl | rfl | rfl | rfl | rfl | rfl | rfl | rfl | rfl | rfl | rfl | rfl | rfl | rfl | rfl | rfl | rfl | rfl | rfl | rfl | rfl | rfl | rfl | rfl
  · exact andNot_all k hk
  · exact andNot_all a ha
  any_goals (first | exact z255 | exact z00 | rfl)
  exact (by decide : bits BinOp.andNot IntKind.u8 0 1 = 0)
theorem plL_bytes {k a : Int} (hk : 0 ≤ k ∧ k ≤ 255) (ha : 0 ≤ a ∧ a ≤ 255) : Bytes (plL k a) := by
  intro x hx
  simp only [plL, List.mem_cons, List.not_mem_nil, or_false] at hx
  rcases hx with rfl | rfl | rfl | rfl | rfl | rfl | rfl | rfl | rfl | rfl | rfl | rfl | rfl | rfl | rfl | rfl | rfl | rfl | rfl | rfl | rfl | rfl | rfl | rfl <;> omega
theorem any_step (l : List Rg) (p : Rg → Bool) (j : Nat) (h : j < l.length) : (l.take (j + 1)).any p = ((l.take j).any p || p (gi l j)) := by
  rw [List.take_succ_eq_append_getElem h, List.any_append, ← gi_eq l j h]
  simp
theorem any_key (l : List Rg) (n : Int) : l.any (fun r => r.1 == n) = (tkey l n).2 := by
  unfold tkey
  cases e : l.find? (fun r => r.1 == n) with
  | none =>
    rw [List.find?_eq_none] at e
    simpa using e
  | some r =>
    have h1 := List.find?_some e
    have h2 := List.mem_of_find?_eq_some e
    simp only [List.any_eq_true]
    exact ⟨r, h2, h1⟩
namespace topReserves
set_option maxHeartbeats 16000000 in
theorem walk0 (A : Option Addr) (len cap : Nat) (l : List At) (w : World) (hr : Rd w 8 encT A len l) (hb : ∀ x ∈ l, OkAt x) :
    Calls Tryz.prog 4 #[.slice A len cap] w fun e w' => e = .returned (.bool true) ∧ Below w.heap.size w w' := by
  obtain ⟨B, hB⟩ : ∃ B, B = w.heap.size := ⟨_, rfl⟩
  rw [← hB]
  have haw := awake_any w
  have hmk := make24
  have hl : l.length = len := hr.1
  have hrB : ∀ W, Below B w W → Rd W 8 encT A len l := fun W h => by subst hB; exact hr.below h
  replace haw := hide haw; replace hr := hide hr; replace hb := hide hb; replace hrB := hide hrB; replace hl := hide hl; replace hB := hide hB
  go_enter Tryz.func4, Tryz.ntmps4
  go_wp2_with (first
    | (go_at_call 7; (with_reducible refine haw.out.mono ?_); rintro e w1 ⟨rfl, m1⟩
       have hnew := wu_new w1 B (by rw [hB.out]; exact m1.size)
       replace m1 := hide m1; replace hnew := hide hnew)
    | (go_at_call 9; (with_reducible refine hnew.out.mono ?_); rintro e w2 ⟨b, F, rfl, hW2, m2, hF2⟩
       have hwh := whole_new B b 0 F w2 hW2 (by decide)
       have hwh : Calls Tryz.prog 8 #[_, .int .u8 0] _ _ := hwh
       replace hwh := hide hwh; replace hW2 := hide hW2; replace m2 := hide m2; replace hF2 := hide hF2)
    | (go_at_call 8; (with_reducible refine hwh.out.mono ?_); rintro e w3 ⟨c, a, rfl, hwb, U, m3, hb3, hF3⟩
       obtain ⟨u, hu⟩ : ∃ u, u = a.u := ⟨_, rfl⟩
       rw [← hu]
       have hsx := sixteen_any none 0 0 [] 0 w3 (Rd.none_ _ _ _ _) (by decide)
       replace hu := hide hu; replace U := hide U; replace m3 := hide m3; replace hb3 := hide hb3; replace hF3 := hide hF3; replace hwb := hide hwb; replace hsx := hide hsx)
    | (go_at_call 13; (with_reducible refine hsx.out.mono ?_); rintro e w4 ⟨g4, rfl, hr4, hg4, m4⟩
       have hcv : (convert 22 9 (.slice (some ⟨g4, 0, none⟩) 16 16)).run Tryz.prog w4 = .ok (.string (strOf (sixt [] 0 16))) w4 := conv_str (hr4.rd (ic_len _) rfl)
       replace hr4 := hide hr4; replace hg4 := hide hg4; replace m4 := hide m4))
  have hP : Hid (RI (fun _ _ => False) B u 0 8 2 0 tb0 0 w w4) := by
    have hBs : B ≤ w.heap.size := Nat.le_of_eq hB.out
    have q1 : Below B w w1 := m1.out.below hBs (fun _ h => h.elim)
    have q2 : Below B w w2 := q1.trans (m2.out.below (Nat.le_trans hBs m1.out.size) (fun _ h => h.elim))
    have s3 : B ≤ w3.heap.size := Nat.le_trans hBs (Nat.le_trans m1.out.size (Nat.le_trans m2.out.size m3.out.size))
    have q3 : RI (fun _ _ => False) B u 0 8 2 0 tb0 0 w w3 := ⟨c, a, us1 0, _, U.out, hu.out.symm, rfl, rfl, rfl, wel0 0, rfl, Nat.le_refl _, rfl, tb0_ok, by rw [us1_L 0 0 (by decide)]; exact Nat.zero_le _, q2.trans hb3.out, s3, fun _ _ e => e.elim⟩
    exact hide (q3.keep m4.out)
  clear haw hnew hwh hsx U hF3 hb3 hwb hF2 hW2 hr4 hg4 m4 m2 m3 m1 hu
  have ho1 : ∀ W, Calls Tryz.prog 11 #[.int .u8 138, .int .u8 0, .int .i64 7, .int .i64 1] W _ := fun W => onb_any 138 0 7 1 W (by decide) (by decide)
  have ho2 : ∀ W, Calls Tryz.prog 11 #[.int .u8 136, .int .u8 0, .int .i64 7, .int .i64 1] W _ := fun W => onb_any 136 0 7 1 W (by decide) (by decide)
  replace ho1 := hide ho1; replace ho2 := hide ho2
  go_loopw [4, 5] (fun v4 v5 wr => ∃ (i : Nat) (f : Int), i ≤ len ∧ i ≤ 80 ∧ v5 = .int .i64 i ∧ 0 ≤ f ∧ f ≤ 255 ∧ v4 = .string (strOf (sixt [] f 16)) ∧ Hid (∃ T, RI (fun _ _ => False) B u 0 8 (2 + 5 * i) i T f w wr)) (fun _ v _ => 80 - (intOf v).toNat)
  case atStart => exact ⟨0, 0, Nat.zero_le _, by omega, rfl, by omega, by omega, rfl, hide ⟨tb0, hP.out⟩⟩
  case round =>
    obtain ⟨i, f, hi, hi2, rfl, hf0, hf1, rfl, hR⟩ := hrel
    clear hP hcv
    obtain ⟨T, hC⟩ := hR.out
    clear hR
    by_cases hlt : i < len ∧ i < 80
    · obtain ⟨hlt, h80⟩ := hlt
      obtain ⟨ad, rfl, hc⟩ := (hrB.out wr hC.bel).2 i hlt
      obtain ⟨x, hx⟩ : ∃ x, x = gi l i := ⟨_, rfl⟩
      have hxb : OkAt x := by
        rw [hx, gi_eq l i (by rw [hl.out]; exact hlt)]
        exact hb.out _ (List.getElem_mem _)
      rw [← hx] at hc
      have hcc : ∀ j u, ([.int .u8 x.nx, .bool x.pl, .int .u8 x.sv, .int .u8 x.ty, .int .u64 x.key, .int .u64 x.act, .bool x.ap, .int .u8 x.fill] : List Value)[j]? = some u → wr.cell? ((ad.add (i * 8)).add j) = some u := fun j u hu => by rw [addr_add]; exact hc j u hu
      clear hc hx
      obtain ⟨hx1, hx2, hx3, hx4, hx5, hx6, hx7⟩ := hxb
      obtain ⟨n, en⟩ : ∃ n : Nat, (n : Int) = x.nx % 4 := ⟨(x.nx % 4).toNat, by omega⟩
      have h4 : n < 4 := by omega
      have h8 : n < 8 := by omega
      have wx : IntKind.i64.wrap x.nx = x.nx := IntWalk.i64_in _ (by omega)
      have et : x.nx % 4 = (n : Int) := en.symm
      clear en
      have q1 : (i : Int) < len := by omega
      have q2 : (i : Int) < 80 := by omega
      obtain ⟨k1, ek1⟩ : ∃ k1, x.key % 4 = k1 := ⟨_, rfl⟩
      obtain ⟨a1, ea1⟩ : ∃ a1, x.act % 4 = a1 := ⟨_, rfl⟩
      obtain ⟨s1, es1⟩ : ∃ s1, x.sv % 7 = s1 := ⟨_, rfl⟩
      obtain ⟨t1, et1⟩ : ∃ t1, x.ty % 9 = t1 := ⟨_, rfl⟩
      have bk1 : 0 ≤ k1 ∧ k1 ≤ 3 := by omega
      have ba1 : 0 ≤ a1 ∧ a1 ≤ 3 := by omega
      have bs1 : 0 ≤ s1 ∧ s1 ≤ 6 := by omega
      have bt1 : 0 ≤ t1 ∧ t1 ≤ 8 := by omega
      have wk1 : IntKind.u8.wrap k1 = k1 := by rw [u8wrap]; omega
      have wa1 : IntKind.u8.wrap a1 = a1 := by rw [u8wrap]; omega
      have hC := hC.nex n h8
      replace hcc := hide hcc; replace hC := hide hC
      generalize x.nx = xnx at *
      generalize x.pl = xpl at *
      generalize x.sv = xsv at *
      generalize x.ty = xty at *
      generalize x.key = xkey at *
      generalize x.act = xact at *
      generalize x.ap = xap at *
      generalize x.fill = xf at *
      go_wp2_with (first
        | ((with_reducible refine list_load 45 (.tmp 39) ?_ ?_ _ Tryz.underlying45 ?_ (ad.add (i * 8)) ([.int .u8 xnx, .bool xpl, .int .u8 xsv, .int .u8 xty, .int .u64 xkey, .int .u64 xact, .bool xap, .int .u8 xf] : List Value) ?_ ?_ hcc.out ?_)
           exact rfl
           exact rfl
           exact rfl
           exact size45
           exact rfl
           skip)
        | ((with_reducible refine list_al 45 _ new45 ?_ ?_ ?_)
           exact rfl
           exact rfl
           intro w5 g6 hg6 h65 m5 s5
           replace hg6 := hide hg6; replace h65 := hide h65; replace m5 := hide m5; replace s5 := hide s5)
        | ((with_reducible refine list_put 45 (.tmp 6) (.tmp 40) ?_ ?_ g6 #[.int .u8 xnx, .bool xpl, .int .u8 xsv, .int .u8 xty, .int .u64 xkey, .int .u64 xact, .bool xap, .int .u8 xf] ?_ ?_ z45 h65.out ?_ ?_ ?_ ?_)
           exact rfl
           exact rfl
           exact rfl
           exact rfl
           exact rfl
           exact size45
           exact caT_one ⟨xnx, xpl, xsv, xty, xkey, xact, xap, xf⟩
           intro w6 h66 m6
           have M6 : Mod (fun _ => False) wr w6 := m5.out.trans m6 (fun k hk e => by have := hg6.out; omega)
           have hC6 := hC.out.more M6 g6 _ (by rw [hg6.out]; exact Nat.le_refl _) h66
           have x0 : w6.cell? ⟨g6, 0, none⟩ = some (.int .u8 xnx) := by rw [cell_of_row w6 _ _ _ 45 (0, 0) h66]; rfl
           replace h66 := hide h66; replace M6 := hide M6; replace hC6 := hide hC6; clear m6))
      clear hC
      rw [et]
      replace et := hide et
      go_loopw [8] (fun v ws => ∃ k : Nat, k ≤ 9 ∧ v = .int .i64 k ∧ Hid (RI (fun k p => k = g6 ∧ p = .cells #[.int .u8 xnx, .bool xpl, .int .u8 xsv, .int .u8 xty, .int .u64 xkey, .int .u64 xact, .bool xap, .int .u8 xf] 45 (0, 0)) B u n (8 - k) (2 + 5 * i) i T f w ws)) (fun v _ => 9 - (intOf v).toNat)
      case atStart => exact ⟨0, Nat.zero_le _, rfl, hC6⟩
      case round =>
        clear hC6 x0
        obtain ⟨k, hk, rfl, hC⟩ := hrel
        by_cases hk9 : k < 9
        · have q3 : (k : Int) < 9 := by omega
          have hrs := hC.out.rs (W := wr.alloc (.cells #[(.int .u8 3 : Value), .int .u8 0, .int .u8 0, .int .u8 0, .int .u8 18, .int .u8 0] 5)) (by omega) wr.heap.size h8 ((Mod.refl _ wr).alloc _) (rd_block (k := .u8) (l := rsL) (heap_alloc_new wr _) rfl) (Nat.le_refl _)
          replace hrs := hide hrs
          go_wp2_with (first
            | (go_at_call 10; (with_reducible refine hrs.out.mono ?_); rintro e w7 ⟨st, key, code, info, has, A7, n7, c7, rfl, hC7⟩
               replace hC7 := hide hC7))
          have hC8 := hC7.out
          rw [show 8 - k - 1 = 8 - (k + 1) from by omega] at hC8
          replace hC8 := hide hC8
          go_roundw
          case rel => exact ⟨k + 1, by omega, by go_num, hC8⟩
          case measure => simp [intOf]; omega
        · obtain rfl : k = 9 := by omega
          have q3 : decide (((9 : Nat) : Int) < 9) = false := by decide
          have htb := hC.out.table (by omega)
          replace htb := hide htb
          have hpl : xpl = false ∨ xpl = true := by cases xpl <;> simp
          rcases hpl with hpl | hpl
          all_goals
           go_wp2_with (first
            | (go_at_call 14; (with_reducible refine htb.out.mono ?_); rintro e w8 ⟨A8, k8, c8, rfl, hr8, ho8, hC8, m8⟩
               have x66 := hC8.at_ g6 _ ⟨rfl, rfl⟩
               have x1 : w8.cell? ⟨g6, 1, none⟩ = some (.bool xpl) := by rw [cell_of_row w8 _ _ _ 45 (0, 0) x66]; rfl
               have x2 : w8.cell? ⟨g6, 2, none⟩ = some (.int .u8 xsv) := by rw [cell_of_row w8 _ _ _ 45 (0, 0) x66]; rfl
               have x3 : w8.cell? ⟨g6, 3, none⟩ = some (.int .u8 xty) := by rw [cell_of_row w8 _ _ _ 45 (0, 0) x66]; rfl
               have x4 : w8.cell? ⟨g6, 4, none⟩ = some (.int .u64 xkey) := by rw [cell_of_row w8 _ _ _ 45 (0, 0) x66]; rfl
               have x5 : w8.cell? ⟨g6, 5, none⟩ = some (.int .u64 xact) := by rw [cell_of_row w8 _ _ _ 45 (0, 0) x66]; rfl
               have x7 : w8.cell? ⟨g6, 7, none⟩ = some (.int .u8 xf) := by rw [cell_of_row w8 _ _ _ 45 (0, 0) x66]; rfl
               have lg6 : g6 < w8.heap.size := World.block_lt_of_cell? w8 _ x1
               have hpr := hC8.pr (W := (w8.alloc (.cells #[(.int .u8 0 : Value), .int .u8 0, .int .u8 0, .int .u8 0, .int .u8 0, .int .u8 0, .int .u8 0, .int .u8 k1, .int .u8 0, .int .u8 0, .int .u8 0, .int .u8 0, .int .u8 0, .int .u8 0, .int .u8 0, .int .u8 a1, .int .u8 0, .int .u8 0, .int .u8 0, .int .u8 0, .int .u8 0, .int .u8 0, .int .u8 0, .int .u8 0] 5)).alloc (.cells #[(.int .u8 95 : Value), .int .u8 s1, .int .u8 t1, .int .u8 0, .int .u8 0, .int .u8 0, .int .u8 0, .int .u8 0, .int .u8 24, .int .u8 0] 5)) (by omega) s1 t1 (w8.heap.size + 1) w8.heap.size (plL k1 a1) h8 (((Mod.refl _ w8).alloc _).alloc _) (rd_block (k := .u8) (l := prL s1 t1) (bx_new (by simp)) rfl) (by omega) bs1 bt1 (rd_block (k := .u8) (l := plL k1 a1) (bx_alloc (bx_new rfl)) rfl) (Nat.le_refl _) (plL_bytes ⟨bk1.1, by omega⟩ ⟨ba1.1, by omega⟩) (plL_odd k1 a1 ⟨bk1.1, by omega⟩ ⟨ba1.1, by omega⟩) rfl
               replace hpr := hide hpr; replace hr8 := hide hr8; replace ho8 := hide ho8; replace hC8 := hide hC8; replace m8 := hide m8; replace x66 := hide x66)
            | (go_at_call 10; (with_reducible refine hpr.out.mono ?_); rintro e w9 ⟨st, key, code, info, has, A9, n9, c9, T', rfl, hC9⟩
               replace hC9 := hide hC9))
          · go_roundw
            case rel => exact ⟨i + 1, f, by omega, by omega, by go_num, hf0, hf1, rfl, hide ⟨T', (hC9.out.less.nex 0 (by decide)).mono (by omega) (by omega)⟩⟩
            case measure => simp [intOf]; omega
          · have hrd8 := hr8.out.rd encR_len rfl
            have hlen8 : T.regs.length = k8 := hrd8.1
            have hk8b : k8 ≤ 1000 := by have := hC8.out.ok.len; omega
            have htk8 : T.regs.take k8 = T.regs := List.take_of_length_le (by omega)
            clear hpr x1 x2 x3 x4 x5
            replace hrd8 := hide hrd8; replace hlen8 := hide hlen8; replace htk8 := hide htk8
            go_loop [13, 14] (fun v z => ∃ j : Nat, j ≤ k8 ∧ z = .int .i64 j ∧ v = .bool ((T.regs.take j).any fun r => r.1 == (n : Int))) (fun _ z => k8 - (intOf z).toNat)
            case atStart => exact ⟨0, Nat.zero_le _, rfl, rfl⟩
            case round =>
              obtain ⟨j, hj, rfl, rfl⟩ := hrel
              by_cases hjk : j < k8
              · obtain ⟨bd, rfl, hcj⟩ := hrd8.out.2 j hjk
                have hst := any_step T.regs (fun r => r.1 == (n : Int)) j (by rw [hlen8.out]; exact hjk)
                obtain ⟨r, hrj⟩ : ∃ r, r = gi T.regs j := ⟨_, rfl⟩
                rw [← hrj] at hcj hst
                obtain ⟨b0, hb0⟩ : ∃ b0, b0 = (T.regs.take j).any fun r => r.1 == (n : Int) := ⟨_, rfl⟩
                have hcj0 : w8.cell? (bd.add (j * 2)) = some (.int .i64 r.1) := hcj 0 _ rfl
                rw [← hb0] at hst ⊢
                have q5 : (j : Int) < k8 := by omega
                clear hcj hrj hb0
                replace hst := hide hst
                have hcs : b0 = true ∨ b0 = false ∧ (r.1 == (n : Int)) = true ∨ b0 = false ∧ (r.1 == (n : Int)) = false := by cases b0 <;> cases (r.1 == (n : Int)) <;> simp
                rcases hcs with rfl | ⟨rfl, t5⟩ | ⟨rfl, t5⟩
                all_goals
                  go_wp2_with fail
                  go_round
                  case rel => exact ⟨j + 1, by omega, by go_num, by rw [hst.out]; first | rfl | simp [t5]⟩
                  case measure => simp [intOf]; omega
              · obtain rfl : k8 = j := by omega
                have q5 : decide ((k8 : Int) < k8) = false := by simp
                rw [htk8.out, any_key]
                obtain ⟨kn, hkn⟩ : ∃ kn, kn = (tkey T.regs n).2 := ⟨_, rfl⟩
                obtain ⟨kd, hkd⟩ : ∃ kd, kd = T.kind := ⟨_, rfl⟩
                obtain ⟨od, hod⟩ : ∃ od, od = holdT kd T.holder := ⟨_, rfl⟩
                have hmc := may_conf T n hC8.out.ok.kind (by omega)
                have hsc := see_conf T n hC8.out.ok.kind (by omega)
                rw [← hkn, ← hkd, ← hod] at hmc hsc
                rw [← hkn, ← hkd, ← hod]
                obtain ⟨my, hmy⟩ : ∃ my, my = mayB kd od n kn := ⟨_, rfl⟩
                obtain ⟨se, hse⟩ : ∃ se, se = seeB kd od n kn := ⟨_, rfl⟩
                rw [← hmy] at hmc
                rw [← hse] at hsc
                have hmy2 : my = (kd == 0 || od == (n : Int) || (decide (kd ≥ 5) && kn)) := hmy
                have hse2 : se = (kd == 0 || kd == 1 || kd == 5 || kd == 7 || my) := by rw [hse, hmy]; rfl
                clear hkn hod hmy hse
                replace hkd := hide hkd; replace hmc := hide hmc; replace hsc := hide hsc; replace hmy2 := hide hmy2; replace hse2 := hide hse2
                go_upto_region 27 with fail
                go_cut [15] from 27 to 179 (fun v wx => v = .bool my ∧ wx = w8)
                case first =>
                 as_aux_lemma =>
                  have hcs : (kd == 0) = true ∧ my = true ∨ (kd == 0) = false ∧ (od == (n : Int)) = true ∧ my = true ∨ (kd == 0) = false ∧ (od == (n : Int)) = false ∧ decide (5 ≤ kd) = true ∧ kn = true ∧ my = true ∨ (kd == 0) = false ∧ (od == (n : Int)) = false ∧ decide (5 ≤ kd) = true ∧ kn = false ∧ my = false ∨ (kd == 0) = false ∧ (od == (n : Int)) = false ∧ decide (5 ≤ kd) = false ∧ my = false := by
                    rw [hmy2.out]
                    show _ ∧ (kd == 0 || od == (n : Int) || (decide (5 ≤ kd) && kn)) = _ ∨ _
                    cases (kd == 0) <;> cases (od == (n : Int)) <;> cases decide (5 ≤ kd) <;> cases kn <;> simp
                  clear hmc hsc hmy2 hse2
                  rcases hcs with ⟨e1, rfl⟩ | ⟨e1, e2, rfl⟩ | ⟨e1, e2, e3, rfl, rfl⟩ | ⟨e1, e2, e3, rfl, rfl⟩ | ⟨e1, e2, e3, rfl⟩
                  all_goals
                    go_wp2_with fail
                    go_meet
                    exact ⟨rfl, rfl⟩
                case rest =>
                  obtain ⟨rfl, hwc⟩ := hcut
                  obtain rfl : w8 = wc := hwc.symm
                  have hcf : confB T n 2 = !my := by rw [hmc.out]; simp
                  have hS : ∀ W, Mod (fun _ => False) w8 W → W.cell? ⟨g6, 7, none⟩ = some (.int .u8 xf) := fun W m => m.cell x7 (fun e => e)
                  replace hS := hide hS
                  clear x7
                  have hw : ∃ (st : Int) (fx : Int), (my = true ∧ st = 0 ∧ fx = xf ∨ my = false ∧ st = 24 ∧ fx = f) ∧ ∀ W g9 g10, Mod (fun _ => False) w8 W → Rd W 1 (ic .u8) (some ⟨g9, 0, none⟩) 16 (onB 138 0 7 1) → w8.heap.size ≤ g9 → Rd W 1 (ic .u8) (some ⟨g10, 0, none⟩) 16 (sixt [] xf 16) → w8.heap.size ≤ g10 →
                      Calls Tryz.prog 10 #[.pointer (some ⟨u, 0, none⟩), .int .i64 n, .slice (some ⟨g9, 0, none⟩) 16 16, .slice (some ⟨g10, 0, none⟩) 16 16] W fun e w' => ∃ A n' cp, e = .returned (rsA st 0 0 0 false (.slice A n' cp)) ∧ RI (KX (fun k p => k = g6 ∧ p = .cells #[.int .u8 xnx, .bool xpl, .int .u8 xsv, .int .u8 xty, .int .u64 xkey, .int .u64 xact, .bool xap, .int .u8 xf] 45 (0, 0)) w8 W) B u n 0 (2 + 5 * i + 3) i T fx w w' := by
                    cases my
                    · exact ⟨24, f, .inr ⟨rfl, rfl, rfl⟩, fun W g9 g10 m r1 q1 _ _ => (hC8.out.out (by omega) 138 8 2 (.inr ⟨rfl, rfl, rfl⟩) g9 (.slice (some ⟨g10, 0, none⟩) 16 16) h8 (by rw [hcf]; rfl) m r1 q1).mono fun e w' ⟨A, n', cp, e1, e2⟩ => ⟨A, n', cp, e1, e2.mono (by omega) (Nat.le_refl _)⟩⟩
                    · exact ⟨0, xf, .inl ⟨rfl, rfl, rfl⟩, fun W g9 g10 m r1 q1 r2 q2 => hC8.out.write (by omega) (by omega) xf ⟨hx6, hx7⟩ g9 g10 h8 (by rw [hcf]; rfl) m r1 q1 r2 q2⟩
                  obtain ⟨st, fx, hsf, hw⟩ := hw
                  replace hw := hide hw; replace hsf := hide hsf
                  go_upto_region 28 with fail
                  go_cut [16] from 27 to 179 (fun v wx => ∃ g16 A11 n11 c11, v = .pointer (some ⟨g16, 0, none⟩) ∧ Hid (wx.heap[g16]? = some (.cells (rcA st 0 0 0 false (.slice A11 n11 c11)) 35 (0, 0)) ∧ RI (fun k p => k = g6 ∧ p = .cells #[.int .u8 xnx, .bool xpl, .int .u8 xsv, .int .u8 xty, .int .u64 xkey, .int .u64 xact, .bool xap, .int .u8 xf] 45 (0, 0)) B u n 0 (2 + 5 * i + 3) i T fx w wx))
                  case first =>
                    clear hmc hsc hmy2 hse2 hsf hcf
                    as_aux_lemma =>
                      refine wp_region_held_drew (S := (fun w' => w'.cell? ⟨g6, 7, none⟩ = some (.int .u8 xf))) (by kernel_rfl) ?_ (fun hHeld => ?_)
                      · exact hS.out _ ((Mod.refl _ w8).drew)
                      refine wpAnyH_take (i := 0) (oi := ⟨_, _, _, _, _, _⟩) (v := ?_) rfl (by kernel_rfl) (by kernel_rfl) (by kernel_rfl) (fun _ _ _ h => h) (Or.inl ⟨by rfl, ?_⟩) (by assumption) ?_
                      rotate_left 1
                      · intro w hSw
                        (try dsimp only at hSw)
                        go_simp
                        try with_reducible rfl
                      try simp only [Act.put, List.setIfInBounds_toArray, List.set_cons_zero, List.set_cons_succ]
                      refine wpAnyH_take (i := 1) (oi := ⟨_, _, _, _, _, _⟩) (v := ?_) rfl (by kernel_rfl) (by kernel_rfl) (by kernel_rfl) (fun _ _ _ h => h) (Or.inl ⟨by rfl, ?_⟩) (by assumption) ?_
                      rotate_left 1
                      · intro w hSw
                        (try dsimp only at hSw)
                        go_simp
                        try with_reducible rfl
                      try simp only [Act.put, List.setIfInBounds_toArray, List.set_cons_zero, List.set_cons_succ]
                      refine wpAnyH_take (i := 3) (oi := ⟨_, _, _, _, _, _⟩) (v := ?_) rfl (by kernel_rfl) (by kernel_rfl) (by kernel_rfl) (fun _ _ _ h => h) (Or.inl ⟨by rfl, ?_⟩) (by assumption) ?_
                      rotate_left 1
                      · intro w hSw
                        (try dsimp only at hSw)
                        go_simp
                        try with_reducible rfl
                      try simp only [Act.put, List.setIfInBounds_toArray, List.set_cons_zero, List.set_cons_succ]
                      refine wpAnyH_take (i := 4) (oi := ⟨_, _, _, _, _, _⟩) (v := ?_) rfl (by kernel_rfl) (by kernel_rfl) (by kernel_rfl) (fun _ _ _ h => h) (Or.inl ⟨by rfl, ?_⟩) (by assumption) ?_
                      rotate_left 1
                      · intro w hSw
                        (try dsimp only at hSw)
                        go_simp
                        try with_reducible rfl
                      try simp only [Act.put, List.setIfInBounds_toArray, List.set_cons_zero, List.set_cons_succ]
                      refine wpAnyH_ready (rs := [2, 7]) (by kernel_rfl) (by simp) ?_
                      refine AllReadyH.cons (o := ⟨_, _, _, _, _, _⟩) rfl (fun K hK => ?_) ?_
                      · skip
                        go_simp
                        (go_at_call 11; (with_reducible refine (ho1.out _).mono ?_); rintro e w9 ⟨rfl, h9, m9⟩
                         have M9 : Mod (fun _ => False) w8 w9 := ((Mod.refl (fun _ => False) w8).drew).trans m9 (fun _ _ e => e)
                         have R9 : Rd w9 1 (ic .u8) (some ⟨w8.heap.size, 0, none⟩) 16 (onB 138 0 7 1) := rd_block (k := .u8) (l := onB 138 0 7 1) h9 rfl
                         have lb9 : w8.heap.size ≤ w8.heap.size := (((Mod.refl (fun _ => False) w8).drew)).size
                         replace M9 := hide M9; replace h9 := hide h9; replace m9 := hide m9; replace R9 := hide R9; replace lb9 := hide lb9)
                        go_wp2_with fail
                        refine hK.out _ _ ?_ (fun hHeld => ?_)
                        · exact hS.out w9 M9.out
                        clear hK K
                        try simp only [Act.put, List.setIfInBounds_toArray, List.set_cons_zero, List.set_cons_succ]
                        refine wpAnyH_ready (rs := [5, 7]) (by kernel_rfl) (by simp) ?_
                        refine AllReadyH.cons (o := ⟨_, _, _, _, _, _⟩) rfl (fun K hK => ?_) ?_
                        · skip
                          go_simp
                          (go_at_call 13; (with_reducible refine (sixteen_any none 0 0 [] xf _ (Rd.none_ _ _ _ _) (by decide)).mono ?_); rintro e w10 ⟨g10, rfl, hr10, hg10, m10⟩
                           have M10 : Mod (fun _ => False) w8 w10 := M9.out.trans m10 (fun _ _ h => h)
                           have R10 := R9.out.mod m10 (fun _ _ e => e)
                           have P10 := hr10.rd (ic_len .u8) rfl
                           have lo10 : w8.heap.size ≤ g10 := Nat.le_trans (M9.out).size hg10
                           replace M10 := hide M10; replace hr10 := hide hr10; replace hg10 := hide hg10; replace m10 := hide m10; replace R10 := hide R10; replace P10 := hide P10; replace lo10 := hide lo10)
                          go_wp2_with fail
                          refine hK.out _ _ ?_ (fun hHeld => ?_)
                          · exact hS.out w10 M10.out
                          clear hK K
                          try simp only [Act.put, List.setIfInBounds_toArray, List.set_cons_zero, List.set_cons_succ]
                          refine wpAnyH_ready (rs := [6, 7]) (by kernel_rfl) (by simp) ?_
                          refine AllReadyH.cons (o := ⟨_, _, _, _, _, _⟩) rfl (fun K hK => ?_) ?_
                          · skip
                            go_simp
                            (go_at_call 10; (with_reducible refine (hw.out w10 _ g10 M10.out R10.out lb9.out P10.out lo10.out).mono ?_)
                             rintro e w11 ⟨A11, n11, c11, rfl, hC11⟩
                             have x66 := hC11.at_ g6 _ (.inl ⟨rfl, rfl⟩)
                             have hS11 : w11.cell? ⟨g6, 7, none⟩ = some (.int .u8 xf) := by rw [cell_of_row w11 _ _ _ 45 (0, 0) x66]; rfl
                             replace hC11 := hide hC11; replace hS11 := hide hS11; clear x66)
                            go_wp2_with fail
                            refine hK.out _ _ ?_ (fun hHeld => ?_)
                            · exact hS11.out
                            clear hK K
                            try simp only [Act.put, List.setIfInBounds_toArray, List.set_cons_zero, List.set_cons_succ]
                            refine wpAnyH_ready (rs := [7]) (by kernel_rfl) (by simp) ?_
                            refine AllReadyH.cons (o := ⟨_, _, _, _, _, _⟩) rfl (fun K hK => ?_) ?_
                            rotate_left 1
                            · exact AllReadyH.nil
                            refine wpo_al 35 _ new35' rfl rfl ?_
                            intro w12 g16 hg16 h12 m12 s12
                            have hC12 := hC11.out.keep m12
                            have h16 := h12
                            replace s12 := hide s12; replace hg16 := hide hg16; replace m12 := hide m12; replace h16 := hide h16; replace hC12 := hide hC12; clear h12
                            refine hK.out _ _ ?_ (fun hHeld => ?_)
                            · exact m12.out.cell hS11.out (fun e => e)
                            clear hK K
                            try simp only [Act.put, List.setIfInBounds_toArray, List.set_cons_zero, List.set_cons_succ]
                            refine wpAnyH_ready (rs := [8]) (by kernel_rfl) (by simp) ?_
                            refine AllReadyH.cons (o := ⟨_, _, _, _, _, _⟩) rfl (fun K hK => ?_) ?_
                            rotate_left 1
                            · exact AllReadyH.nil
                            refine wpo_put 35 (.tmp 16) (.tmp 126) rfl rfl g16 (rcA st 0 0 0 false (.slice A11 n11 c11)) rfl rfl zs35 h16.out rfl size35 (rc_one _ _ _ _ _ _ _ _) ?_
                            intro w13 h13 m13
                            have m1113 : Mod (fun _ => False) w11 w13 := m12.out.trans m13 (fun k hk e => by have := hg16.out; omega)
                            have hC13 : RI (fun k p => k = g6 ∧ p = .cells #[.int .u8 xnx, .bool xpl, .int .u8 xsv, .int .u8 xty, .int .u64 xkey, .int .u64 xact, .bool xap, .int .u8 xf] 45 (0, 0)) B u n 0 (2 + 5 * i + 3) i T fx w w13 := (hC11.out.keep m1113).sub _ (fun g o k => .inl k)
                            have hS13 := m1113.cell hS11.out (fun e => e)
                            refine hK.out _ _ ?_ (fun hHeld => ?_)
                            · exact hS13
                            clear hK K
                            try simp only [Act.put]
                            refine wpAnyH_done (by kernel_rfl) ?_ _
                            go_wp2_with fail
                            go_meet
                            exact ⟨g16, A11, n11, c11, rfl, hide ⟨h13, hC13⟩⟩
                          · refine AllReadyH.cons (o := ⟨_, _, _, _, _, _⟩) rfl (fun K hK => ?_) ?_
                            rotate_left 1
                            · exact AllReadyH.nil
                            refine wpo_al 35 _ new35' rfl rfl ?_
                            intro w12 g16 hg16 h12 m12 s12
                            have M12 : Mod (fun _ => False) w8 w12 := M10.out.trans m12 (fun _ _ e => e)
                            have lo16 : w8.heap.size ≤ g16 := by rw [hg16]; exact (M10.out).size
                            have R12 := R10.out.mod m12 (fun _ _ e => e)
                            have P12 := P10.out.mod m12 (fun _ _ e => e)
                            have h16 := h12
                            replace s12 := hide s12; replace hg16 := hide hg16; replace M12 := hide M12; replace lo16 := hide lo16; replace h16 := hide h16; clear h12
                            replace R12 := hide R12
                            replace P12 := hide P12
                            refine hK.out _ _ ?_ (fun hHeld => ?_)
                            · exact hS.out w12 M12.out
                            clear hK K
                            try simp only [Act.put, List.setIfInBounds_toArray, List.set_cons_zero, List.set_cons_succ]
                            refine wpAnyH_ready (rs := [6]) (by kernel_rfl) (by simp) ?_
                            refine AllReadyH.cons (o := ⟨_, _, _, _, _, _⟩) rfl (fun K hK => ?_) ?_
                            rotate_left 1
                            · exact AllReadyH.nil
                            go_simp
                            (go_at_call 10; (with_reducible refine (hw.out w12 _ g10 M12.out R12.out lb9.out P12.out lo10.out).mono ?_)
                             rintro e w11 ⟨A11, n11, c11, rfl, hC11⟩
                             have x66 := hC11.at_ g6 _ (.inl ⟨rfl, rfl⟩)
                             have hS11 : w11.cell? ⟨g6, 7, none⟩ = some (.int .u8 xf) := by rw [cell_of_row w11 _ _ _ 45 (0, 0) x66]; rfl
                             have h1611 := hC11.at_ g16 _ (.inr ⟨lo16.out, h16.out⟩)
                             replace h1611 := hide h1611
                             replace hC11 := hide hC11; replace hS11 := hide hS11; clear x66)
                            go_wp2_with fail
                            refine hK.out _ _ ?_ (fun hHeld => ?_)
                            · exact hS11.out
                            clear hK K
                            try simp only [Act.put, List.setIfInBounds_toArray, List.set_cons_zero, List.set_cons_succ]
                            refine wpAnyH_ready (rs := [8]) (by kernel_rfl) (by simp) ?_
                            refine AllReadyH.cons (o := ⟨_, _, _, _, _, _⟩) rfl (fun K hK => ?_) ?_
                            rotate_left 1
                            · exact AllReadyH.nil
                            refine wpo_put 35 (.tmp 16) (.tmp 126) rfl rfl g16 (rcA st 0 0 0 false (.slice A11 n11 c11)) rfl rfl zs35 h1611.out rfl size35 (rc_one _ _ _ _ _ _ _ _) ?_
                            intro w13 h13 m13
                            have n616 : ¬ g6 = g16 := by have := lo16.out; omega
                            have hC13 : RI (fun k p => k = g6 ∧ p = .cells #[.int .u8 xnx, .bool xpl, .int .u8 xsv, .int .u8 xty, .int .u64 xkey, .int .u64 xact, .bool xap, .int .u8 xf] 45 (0, 0)) B u n 0 (2 + 5 * i + 3) i T fx w w13 := (hC11.out.put g16 _ (.inr ⟨lo16.out, h16.out⟩) (Nat.le_trans hC8.out.big lo16.out) m13).sub _ (fun g o k => ⟨.inl k, fun e => n616 (k.1 ▸ e)⟩)
                            have hS13 := m13.cell hS11.out (fun e => n616 e)
                            refine hK.out _ _ ?_ (fun hHeld => ?_)
                            · exact hS13
                            clear hK K
                            try simp only [Act.put]
                            refine wpAnyH_done (by kernel_rfl) ?_ _
                            go_wp2_with fail
                            go_meet
                            exact ⟨g16, A11, n11, c11, rfl, hide ⟨h13, hC13⟩⟩
                        · refine AllReadyH.cons (o := ⟨_, _, _, _, _, _⟩) rfl (fun K hK => ?_) ?_
                          rotate_left 1
                          · exact AllReadyH.nil
                          refine wpo_al 35 _ new35' rfl rfl ?_
                          intro w12 g16 hg16 h12 m12 s12
                          have M12 : Mod (fun _ => False) w8 w12 := M9.out.trans m12 (fun _ _ e => e)
                          have lo16 : w8.heap.size ≤ g16 := by rw [hg16]; exact (M9.out).size
                          have R12 := R9.out.mod m12 (fun _ _ e => e)
                          have h16 := h12
                          replace s12 := hide s12; replace hg16 := hide hg16; replace M12 := hide M12; replace lo16 := hide lo16; replace h16 := hide h16; clear h12
                          replace R12 := hide R12
                          refine hK.out _ _ ?_ (fun hHeld => ?_)
                          · exact hS.out w12 M12.out
                          clear hK K
                          try simp only [Act.put, List.setIfInBounds_toArray, List.set_cons_zero, List.set_cons_succ]
                          refine wpAnyH_ready (rs := [5]) (by kernel_rfl) (by simp) ?_
                          refine AllReadyH.cons (o := ⟨_, _, _, _, _, _⟩) rfl (fun K hK => ?_) ?_
                          rotate_left 1
                          · exact AllReadyH.nil
                          go_simp
                          (go_at_call 13; (with_reducible refine (sixteen_any none 0 0 [] xf _ (Rd.none_ _ _ _ _) (by decide)).mono ?_); rintro e w10 ⟨g10, rfl, hr10, hg10, m10⟩
                           have M10 : Mod (fun _ => False) w8 w10 := M12.out.trans m10 (fun _ _ h => h)
                           have R10 := R12.out.mod m10 (fun _ _ e => e)
                           have P10 := hr10.rd (ic_len .u8) rfl
                           have lo10 : w8.heap.size ≤ g10 := Nat.le_trans (M12.out).size hg10
                           have h1610 := m10.heap h16.out (fun e => e)
                           replace h1610 := hide h1610
                           replace M10 := hide M10; replace hr10 := hide hr10; replace hg10 := hide hg10; replace m10 := hide m10; replace R10 := hide R10; replace P10 := hide P10; replace lo10 := hide lo10)
                          go_wp2_with fail
                          refine hK.out _ _ ?_ (fun hHeld => ?_)
                          · exact hS.out w10 M10.out
                          clear hK K
                          try simp only [Act.put, List.setIfInBounds_toArray, List.set_cons_zero, List.set_cons_succ]
                          refine wpAnyH_ready (rs := [6]) (by kernel_rfl) (by simp) ?_
                          refine AllReadyH.cons (o := ⟨_, _, _, _, _, _⟩) rfl (fun K hK => ?_) ?_
                          rotate_left 1
                          · exact AllReadyH.nil
                          go_simp
                          (go_at_call 10; (with_reducible refine (hw.out w10 _ g10 M10.out R10.out lb9.out P10.out lo10.out).mono ?_)
                           rintro e w11 ⟨A11, n11, c11, rfl, hC11⟩
                           have x66 := hC11.at_ g6 _ (.inl ⟨rfl, rfl⟩)
                           have hS11 : w11.cell? ⟨g6, 7, none⟩ = some (.int .u8 xf) := by rw [cell_of_row w11 _ _ _ 45 (0, 0) x66]; rfl
                           have h1611 := hC11.at_ g16 _ (.inr ⟨lo16.out, h1610.out⟩)
                           replace h1611 := hide h1611
                           replace hC11 := hide hC11; replace hS11 := hide hS11; clear x66)
                          go_wp2_with fail
                          refine hK.out _ _ ?_ (fun hHeld => ?_)
                          · exact hS11.out
                          clear hK K
                          try simp only [Act.put, List.setIfInBounds_toArray, List.set_cons_zero, List.set_cons_succ]
                          refine wpAnyH_ready (rs := [8]) (by kernel_rfl) (by simp) ?_
                          refine AllReadyH.cons (o := ⟨_, _, _, _, _, _⟩) rfl (fun K hK => ?_) ?_
                          rotate_left 1
                          · exact AllReadyH.nil
                          refine wpo_put 35 (.tmp 16) (.tmp 126) rfl rfl g16 (rcA st 0 0 0 false (.slice A11 n11 c11)) rfl rfl zs35 h1611.out rfl size35 (rc_one _ _ _ _ _ _ _ _) ?_
                          intro w13 h13 m13
                          have n616 : ¬ g6 = g16 := by have := lo16.out; omega
                          have hC13 : RI (fun k p => k = g6 ∧ p = .cells #[.int .u8 xnx, .bool xpl, .int .u8 xsv, .int .u8 xty, .int .u64 xkey, .int .u64 xact, .bool xap, .int .u8 xf] 45 (0, 0)) B u n 0 (2 + 5 * i + 3) i T fx w w13 := (hC11.out.put g16 _ (.inr ⟨lo16.out, h1610.out⟩) (Nat.le_trans hC8.out.big lo16.out) m13).sub _ (fun g o k => ⟨.inl k, fun e => n616 (k.1 ▸ e)⟩)
                          have hS13 := m13.cell hS11.out (fun e => n616 e)
                          refine hK.out _ _ ?_ (fun hHeld => ?_)
                          · exact hS13
                          clear hK K
                          try simp only [Act.put]
                          refine wpAnyH_done (by kernel_rfl) ?_ _
                          go_wp2_with fail
                          go_meet
                          exact ⟨g16, A11, n11, c11, rfl, hide ⟨h13, hC13⟩⟩
                      · refine AllReadyH.cons (o := ⟨_, _, _, _, _, _⟩) rfl (fun K hK => ?_) ?_
                        rotate_left 1
                        · exact AllReadyH.nil
                        refine wpo_al 35 _ new35' rfl rfl ?_
                        intro w12 g16 hg16 h12 m12 s12
                        have M12 : Mod (fun _ => False) w8 w12 := ((Mod.refl (fun _ => False) w8).drew).trans m12 (fun _ _ e => e)
                        have lo16 : w8.heap.size ≤ g16 := by rw [hg16]; exact (((Mod.refl (fun _ => False) w8).drew)).size
                        have h16 := h12
                        replace s12 := hide s12; replace hg16 := hide hg16; replace M12 := hide M12; replace lo16 := hide lo16; replace h16 := hide h16; clear h12
                        refine hK.out _ _ ?_ (fun hHeld => ?_)
                        · exact hS.out w12 M12.out
                        clear hK K
                        try simp only [Act.put, List.setIfInBounds_toArray, List.set_cons_zero, List.set_cons_succ]
                        refine wpAnyH_ready (rs := [2]) (by kernel_rfl) (by simp) ?_
                        refine AllReadyH.cons (o := ⟨_, _, _, _, _, _⟩) rfl (fun K hK => ?_) ?_
                        rotate_left 1
                        · exact AllReadyH.nil
                        go_simp
                        (go_at_call 11; (with_reducible refine (ho1.out _).mono ?_); rintro e w9 ⟨rfl, h9, m9⟩
                         have M9 : Mod (fun _ => False) w8 w9 := M12.out.trans m9 (fun _ _ e => e)
                         have R9 : Rd w9 1 (ic .u8) (some ⟨w12.heap.size, 0, none⟩) 16 (onB 138 0 7 1) := rd_block (k := .u8) (l := onB 138 0 7 1) h9 rfl
                         have lb9 : w8.heap.size ≤ w12.heap.size := (M12.out).size
                         have h169 := m9.heap h16.out (fun e => e)
                         replace h169 := hide h169
                         replace M9 := hide M9; replace h9 := hide h9; replace m9 := hide m9; replace R9 := hide R9; replace lb9 := hide lb9)
                        go_wp2_with fail
                        refine hK.out _ _ ?_ (fun hHeld => ?_)
                        · exact hS.out w9 M9.out
                        clear hK K
                        try simp only [Act.put, List.setIfInBounds_toArray, List.set_cons_zero, List.set_cons_succ]
                        refine wpAnyH_ready (rs := [5]) (by kernel_rfl) (by simp) ?_
                        refine AllReadyH.cons (o := ⟨_, _, _, _, _, _⟩) rfl (fun K hK => ?_) ?_
                        rotate_left 1
                        · exact AllReadyH.nil
                        go_simp
                        (go_at_call 13; (with_reducible refine (sixteen_any none 0 0 [] xf _ (Rd.none_ _ _ _ _) (by decide)).mono ?_); rintro e w10 ⟨g10, rfl, hr10, hg10, m10⟩
                         have M10 : Mod (fun _ => False) w8 w10 := M9.out.trans m10 (fun _ _ h => h)
                         have R10 := R9.out.mod m10 (fun _ _ e => e)
                         have P10 := hr10.rd (ic_len .u8) rfl
                         have lo10 : w8.heap.size ≤ g10 := Nat.le_trans (M9.out).size hg10
                         have h1610 := m10.heap h169.out (fun e => e)
                         replace h1610 := hide h1610
                         replace M10 := hide M10; replace hr10 := hide hr10; replace hg10 := hide hg10; replace m10 := hide m10; replace R10 := hide R10; replace P10 := hide P10; replace lo10 := hide lo10)
                        go_wp2_with fail
                        refine hK.out _ _ ?_ (fun hHeld => ?_)
                        · exact hS.out w10 M10.out
                        clear hK K
                        try simp only [Act.put, List.setIfInBounds_toArray, List.set_cons_zero, List.set_cons_succ]
                        refine wpAnyH_ready (rs := [6]) (by kernel_rfl) (by simp) ?_
                        refine AllReadyH.cons (o := ⟨_, _, _, _, _, _⟩) rfl (fun K hK => ?_) ?_
                        rotate_left 1
                        · exact AllReadyH.nil
                        go_simp
                        (go_at_call 10; (with_reducible refine (hw.out w10 _ g10 M10.out R10.out lb9.out P10.out lo10.out).mono ?_)
                         rintro e w11 ⟨A11, n11, c11, rfl, hC11⟩
                         have x66 := hC11.at_ g6 _ (.inl ⟨rfl, rfl⟩)
                         have hS11 : w11.cell? ⟨g6, 7, none⟩ = some (.int .u8 xf) := by rw [cell_of_row w11 _ _ _ 45 (0, 0) x66]; rfl
                         have h1611 := hC11.at_ g16 _ (.inr ⟨lo16.out, h1610.out⟩)
                         replace h1611 := hide h1611
                         replace hC11 := hide hC11; replace hS11 := hide hS11; clear x66)
                        go_wp2_with fail
                        refine hK.out _ _ ?_ (fun hHeld => ?_)
                        · exact hS11.out
                        clear hK K
                        try simp only [Act.put, List.setIfInBounds_toArray, List.set_cons_zero, List.set_cons_succ]
                        refine wpAnyH_ready (rs := [8]) (by kernel_rfl) (by simp) ?_
                        refine AllReadyH.cons (o := ⟨_, _, _, _, _, _⟩) rfl (fun K hK => ?_) ?_
                        rotate_left 1
                        · exact AllReadyH.nil
                        refine wpo_put 35 (.tmp 16) (.tmp 126) rfl rfl g16 (rcA st 0 0 0 false (.slice A11 n11 c11)) rfl rfl zs35 h1611.out rfl size35 (rc_one _ _ _ _ _ _ _ _) ?_
                        intro w13 h13 m13
                        have n616 : ¬ g6 = g16 := by have := lo16.out; omega
                        have hC13 : RI (fun k p => k = g6 ∧ p = .cells #[.int .u8 xnx, .bool xpl, .int .u8 xsv, .int .u8 xty, .int .u64 xkey, .int .u64 xact, .bool xap, .int .u8 xf] 45 (0, 0)) B u n 0 (2 + 5 * i + 3) i T fx w w13 := (hC11.out.put g16 _ (.inr ⟨lo16.out, h1610.out⟩) (Nat.le_trans hC8.out.big lo16.out) m13).sub _ (fun g o k => ⟨.inl k, fun e => n616 (k.1 ▸ e)⟩)
                        have hS13 := m13.cell hS11.out (fun e => n616 e)
                        refine hK.out _ _ ?_ (fun hHeld => ?_)
                        · exact hS13
                        clear hK K
                        try simp only [Act.put]
                        refine wpAnyH_done (by kernel_rfl) ?_ _
                        go_wp2_with fail
                        go_meet
                        exact ⟨g16, A11, n11, c11, rfl, hide ⟨h13, hC13⟩⟩
                  case rest =>
                    obtain ⟨g16, A11, n11, c11, rfl, hcut⟩ := hcut
                    obtain ⟨h13, hC13⟩ := hcut.out
                    clear hcut hS hw
                    have x613 := hC13.at_ g6 _ ⟨rfl, rfl⟩
                    have x713 : wc.cell? ⟨g6, 7, none⟩ = some (.int .u8 xf) := by rw [cell_of_row wc _ _ _ 45 (0, 0) x613]; rfl
                    replace h13 := hide h13; replace hC13 := hide hC13; clear x613
                    rcases hsf.out with ⟨rfl, rfl, hfx⟩ | ⟨rfl, rfl, hfx⟩
                    · obtain rfl : xf = fx := hfx.symm
                      as_aux_lemma =>
                        go_upto_region 33 with (first
                          | ((with_reducible refine list_whole 35 (.tmp 16) ?_ ?_ ⟨g16, 0, none⟩ (rcA 0 0 0 0 false (.slice A11 n11 c11)) ?_ ?_ ?_)
                             exact rfl
                             exact rfl
                             exact rfl
                             exact load_whole h13.out Tryz.underlying35 rfl size35
                             skip)
                          | (go_at_call 12; (with_reducible refine (good_res 0 0 0 0 false A11 n11 c11 _).mono ?_); rintro e w14 ⟨rfl, m14⟩
                             have hst14 : w14.cell? ⟨g16, 0, none⟩ = some (.int .u8 0) := by rw [cell_of_row w14 _ _ _ 35 (0, 0) (m14.heap h13.out (fun e => e))]; rfl
                             have hC14 := hC13.out.keep m14
                             have x714 : w14.cell? ⟨g6, 7, none⟩ = some (.int .u8 xf) := m14.cell x713 (fun e => e)
                             replace hC14 := hide hC14; replace m14 := hide m14)
                          | (go_at_call 13; (with_reducible refine (sixteen_any none 0 0 [] xf _ (Rd.none_ _ _ _ _) (by decide)).mono ?_); rintro e w15 ⟨g15, rfl, hr15, hg15, m15⟩
                             have hcv15 : (convert 22 9 (.slice (some ⟨g15, 0, none⟩) 16 16)).run Tryz.prog w15 = .ok (.string (strOf (sixt [] xf 16))) w15 := conv_str (hr15.rd (ic_len _) rfl)
                             have hC15 := hC14.out.keep m15
                             replace hC15 := hide hC15; replace m15 := hide m15; replace hr15 := hide hr15; replace hg15 := hide hg15))
                        go_cut [17] from 27 to 179 (fun v wx => v = .bool se ∧ wx = w15)
                        case first =>
                          have hcs : (kd == 0) = true ∧ se = true ∨ (kd == 0) = false ∧ (kd == 1) = true ∧ se = true ∨ (kd == 0) = false ∧ (kd == 1) = false ∧ (kd == 5) = true ∧ se = true ∨ (kd == 0) = false ∧ (kd == 1) = false ∧ (kd == 5) = false ∧ (kd == 7) = true ∧ se = true ∨ (kd == 0) = false ∧ (kd == 1) = false ∧ (kd == 5) = false ∧ (kd == 7) = false ∧ se = true := by
                            rw [hse2.out]
                            cases (kd == 0) <;> cases (kd == 1) <;> cases (kd == 5) <;> cases (kd == 7) <;> simp
                          clear hmc hsc hmy2 hse2
                          rcases hcs with ⟨e1, rfl⟩ | ⟨e1, e2, rfl⟩ | ⟨e1, e2, e3, rfl⟩ | ⟨e1, e2, e3, e4, rfl⟩ | ⟨e1, e2, e3, e4, rfl⟩
                          all_goals
                            go_wp2_with fail
                            go_meet
                            exact ⟨rfl, rfl⟩
                        case rest =>
                          obtain ⟨rfl, hwc⟩ := hcut
                          obtain rfl : w15 = wc := hwc.symm
                          have hcr0 : confB T n 1 = !se := by rw [hsc.out]; simp
                          have hse3 : se = true := by rw [hse2.out]; simp
                          have hcr : confB T n 1 = false := by rw [hcr0, hse3]; rfl
                          clear hmc hsc hmy2 hse2 hcr0
                          subst hse3
                          go_wp2_with (first
                            | (go_at_call 11; (with_reducible refine (ho2.out _).mono ?_); rintro e w16 ⟨rfl, h16, m16⟩
                               have hrd : Rd w16 1 (ic .u8) (some ⟨w15.heap.size, 0, none⟩) 16 (onB 136 0 7 1) := rd_block (k := .u8) (l := onB 136 0 7 1) h16 rfl
                               have hdo := hC15.out.read (by omega) (by omega) w15.heap.size h8 (hcr) m16 hrd (Nat.le_refl _)
                               clear hrd
                               replace hdo := hide hdo; replace h16 := hide h16; replace m16 := hide m16)
                            | (go_at_call 10; (with_reducible refine hdo.out.mono ?_); rintro e w17 ⟨A17, n17, c17, rfl, hrow17, hC17⟩
                               have hgd := good_res 0 0 0 0 false A17 n17 c17
                               replace hgd := hide hgd; replace hC17 := hide hC17; replace hrow17 := hide hrow17)
                            | ((with_reducible refine list_al 35 _ new35' ?_ ?_ ?_)
                               exact rfl
                               exact rfl
                               intro w18 g18 hg18 h18 m18 s18
                               replace hg18 := hide hg18; replace h18 := hide h18; replace m18 := hide m18; replace s18 := hide s18)
                            | ((with_reducible refine list_put 35 (.tmp 18) (.tmp 165) ?_ ?_ g18 (rcA 0 0 0 0 false (.slice A17 n17 c17)) ?_ ?_ zs35 h18.out ?_ ?_ ?_ ?_)
                               exact rfl
                               exact rfl
                               exact rfl
                               exact rfl
                               exact rfl
                               exact size35
                               exact rc_one _ _ _ _ _ _ _ _
                               intro w19 h19 m19
                               have m79 : Mod (fun _ => False) w17 w19 := m18.out.trans m19 (fun k hk e => by have := hg18.out; omega)
                               have hrow19 := hrow17.out.mod m79 (fun _ _ e => e)
                               have hC19 := hC17.out.keep m79
                               replace h19 := hide h19; replace m19 := hide m19; replace m79 := hide m79; replace hC19 := hide hC19; replace hrow19 := hide hrow19)
                            | ((with_reducible refine list_whole 35 (.tmp 18) ?_ ?_ ⟨g18, 0, none⟩ (rcA 0 0 0 0 false (.slice A17 n17 c17)) ?_ ?_ ?_)
                               exact rfl
                               exact rfl
                               exact rfl
                               exact load_whole h19.out Tryz.underlying35 rfl size35
                               skip)
                            | (go_at_call 12; (with_reducible refine (hgd.out _).mono ?_); rintro e w20 ⟨rfl, m20⟩
                               have hc9 : w20.cell? ⟨g18, 9, none⟩ = some (.slice A17 n17 c17) := by rw [cell_of_row w20 _ _ _ 35 (0, 0) (m20.heap h19.out (fun e => e))]; rfl
                               have hcv : (convert 22 9 (.slice A17 n17 c17)).run Tryz.prog w20 = .ok (.string (strOf (sixt [] xf 16))) w20 := conv_str ((hrow19.out.mod m20 (fun _ _ e => e)).rd (ic_len _) rfl)
                               have hC20 := hC19.out.keep m20
                               replace hC20 := hide hC20; replace m20 := hide m20))
                          go_roundw
                          case rel =>
                            have hfin : ∃ (i' : Nat) (f' : Int), i' ≤ len ∧ i' ≤ 80 ∧ Value.int IntKind.i64 (i + 1) = .int .i64 i' ∧ 0 ≤ f' ∧ f' ≤ 255 ∧ Value.string (strOf (sixt [] xf 16)) = .string (strOf (sixt [] f' 16)) ∧ Hid (∃ T, RI (fun _ _ => False) B u 0 8 (2 + 5 * i') i' T f' w w20) :=
                              ⟨i + 1, xf, by omega, by omega, by go_num, hx6, hx7, rfl, hide ⟨T, (hC20.out.less.nex 0 (by decide)).mono (by omega) (by omega)⟩⟩
                            first
                            | exact hfin
                            | ((repeat apply Exists.intro); exact ⟨hfin, rfl⟩)
                          case measure => simp [intOf]; omega
                    · obtain rfl : f = fx := hfx.symm
                      as_aux_lemma =>
                        go_upto_region 33 with (first
                          | ((with_reducible refine list_whole 35 (.tmp 16) ?_ ?_ ⟨g16, 0, none⟩ (rcA 24 0 0 0 false (.slice A11 n11 c11)) ?_ ?_ ?_)
                             exact rfl
                             exact rfl
                             exact rfl
                             exact load_whole h13.out Tryz.underlying35 rfl size35
                             skip)
                          | (go_at_call 12; (with_reducible refine (good_res 24 0 0 0 false A11 n11 c11 _).mono ?_); rintro e w14 ⟨rfl, m14⟩
                             have hst14 : w14.cell? ⟨g16, 0, none⟩ = some (.int .u8 24) := by rw [cell_of_row w14 _ _ _ 35 (0, 0) (m14.heap h13.out (fun e => e))]; rfl
                             have hC14 := hC13.out.keep m14
                             have x714 : w14.cell? ⟨g6, 7, none⟩ = some (.int .u8 xf) := m14.cell x713 (fun e => e)
                             replace hC14 := hide hC14; replace m14 := hide m14))
                        go_cut [17] from 27 to 179 (fun v wx => v = .bool se ∧ wx = w14)
                        case first =>
                          have hcs : (kd == 0) = true ∧ se = true ∨ (kd == 0) = false ∧ (kd == 1) = true ∧ se = true ∨ (kd == 0) = false ∧ (kd == 1) = false ∧ (kd == 5) = true ∧ se = true ∨ (kd == 0) = false ∧ (kd == 1) = false ∧ (kd == 5) = false ∧ (kd == 7) = true ∧ se = true ∨ (kd == 0) = false ∧ (kd == 1) = false ∧ (kd == 5) = false ∧ (kd == 7) = false ∧ se = false := by
                            rw [hse2.out]
                            cases (kd == 0) <;> cases (kd == 1) <;> cases (kd == 5) <;> cases (kd == 7) <;> simp
                          clear hmc hsc hmy2 hse2
                          rcases hcs with ⟨e1, rfl⟩ | ⟨e1, e2, rfl⟩ | ⟨e1, e2, e3, rfl⟩ | ⟨e1, e2, e3, e4, rfl⟩ | ⟨e1, e2, e3, e4, rfl⟩
                          all_goals
                            go_wp2_with fail
                            go_meet
                            exact ⟨rfl, rfl⟩
                        case rest =>
                          obtain ⟨rfl, hwc⟩ := hcut
                          obtain rfl : w14 = wc := hwc.symm
                          have hcr0 : confB T n 1 = !se := by rw [hsc.out]; simp
                          cases se
                          · have hcr : confB T n 1 = true := by rw [hcr0]; rfl
                            go_wp2_with (first
                              | (go_at_call 11; (with_reducible refine (ho2.out _).mono ?_); rintro e w16 ⟨rfl, h16, m16⟩
                                 have hrd : Rd w16 1 (ic .u8) (some ⟨w14.heap.size, 0, none⟩) 16 (onB 136 0 7 1) := rd_block (k := .u8) (l := onB 136 0 7 1) h16 rfl
                                 have hdo := hC14.out.out (by omega) 136 7 1 (.inl ⟨rfl, rfl, rfl⟩) w14.heap.size (.slice none 0 0) h8 (hcr) m16 hrd (Nat.le_refl _)
                                 clear hrd
                                 replace hdo := hide hdo; replace h16 := hide h16; replace m16 := hide m16)
                              | (go_at_call 10; (with_reducible refine hdo.out.mono ?_); rintro e w17 ⟨A17, n17, c17, rfl, hC17⟩
                                 have hgd := good_res 24 0 0 0 false A17 n17 c17
                                 replace hgd := hide hgd; replace hC17 := hide hC17)
                              | ((with_reducible refine list_al 35 _ new35' ?_ ?_ ?_)
                                 exact rfl
                                 exact rfl
                                 intro w18 g18 hg18 h18 m18 s18
                                 replace hg18 := hide hg18; replace h18 := hide h18; replace m18 := hide m18; replace s18 := hide s18)
                              | ((with_reducible refine list_put 35 (.tmp 18) (.tmp 165) ?_ ?_ g18 (rcA 24 0 0 0 false (.slice A17 n17 c17)) ?_ ?_ zs35 h18.out ?_ ?_ ?_ ?_)
                                 exact rfl
                                 exact rfl
                                 exact rfl
                                 exact rfl
                                 exact rfl
                                 exact size35
                                 exact rc_one _ _ _ _ _ _ _ _
                                 intro w19 h19 m19
                                 have m79 : Mod (fun _ => False) w17 w19 := m18.out.trans m19 (fun k hk e => by have := hg18.out; omega)
                                 have hC19 := hC17.out.keep m79
                                 replace h19 := hide h19; replace m19 := hide m19; replace m79 := hide m79; replace hC19 := hide hC19)
                              | ((with_reducible refine list_whole 35 (.tmp 18) ?_ ?_ ⟨g18, 0, none⟩ (rcA 24 0 0 0 false (.slice A17 n17 c17)) ?_ ?_ ?_)
                                 exact rfl
                                 exact rfl
                                 exact rfl
                                 exact load_whole h19.out Tryz.underlying35 rfl size35
                                 skip)
                              | (go_at_call 12; (with_reducible refine (hgd.out _).mono ?_); rintro e w20 ⟨rfl, m20⟩
                                 have hc9 : w20.cell? ⟨g18, 9, none⟩ = some (.slice A17 n17 c17) := by rw [cell_of_row w20 _ _ _ 35 (0, 0) (m20.heap h19.out (fun e => e))]; rfl
                                 have hC20 := hC19.out.keep m20
                                 replace hC20 := hide hC20; replace m20 := hide m20))
                            go_roundw
                            case rel =>
                              have hfin : ∃ (i' : Nat) (f' : Int), i' ≤ len ∧ i' ≤ 80 ∧ Value.int IntKind.i64 (i + 1) = .int .i64 i' ∧ 0 ≤ f' ∧ f' ≤ 255 ∧ Value.string (strOf (sixt [] f 16)) = .string (strOf (sixt [] f' 16)) ∧ Hid (∃ T, RI (fun _ _ => False) B u 0 8 (2 + 5 * i') i' T f' w w20) :=
                                ⟨i + 1, f, by omega, by omega, by go_num, hf0, hf1, rfl, hide ⟨T, (hC20.out.less.nex 0 (by decide)).mono (by omega) (by omega)⟩⟩
                              first
                              | exact hfin
                              | ((repeat apply Exists.intro); exact ⟨hfin, rfl⟩)
                            case measure => simp [intOf]; omega
                          · have hcr : confB T n 1 = false := by rw [hcr0]; rfl
                            go_wp2_with (first
                              | (go_at_call 11; (with_reducible refine (ho2.out _).mono ?_); rintro e w16 ⟨rfl, h16, m16⟩
                                 have hrd : Rd w16 1 (ic .u8) (some ⟨w14.heap.size, 0, none⟩) 16 (onB 136 0 7 1) := rd_block (k := .u8) (l := onB 136 0 7 1) h16 rfl
                                 have hdo := hC14.out.read (by omega) (by omega) w14.heap.size h8 (hcr) m16 hrd (Nat.le_refl _)
                                 clear hrd
                                 replace hdo := hide hdo; replace h16 := hide h16; replace m16 := hide m16)
                              | (go_at_call 10; (with_reducible refine hdo.out.mono ?_); rintro e w17 ⟨A17, n17, c17, rfl, hrow17, hC17⟩
                                 have hgd := good_res 0 0 0 0 false A17 n17 c17
                                 replace hgd := hide hgd; replace hC17 := hide hC17; replace hrow17 := hide hrow17)
                              | ((with_reducible refine list_al 35 _ new35' ?_ ?_ ?_)
                                 exact rfl
                                 exact rfl
                                 intro w18 g18 hg18 h18 m18 s18
                                 replace hg18 := hide hg18; replace h18 := hide h18; replace m18 := hide m18; replace s18 := hide s18)
                              | ((with_reducible refine list_put 35 (.tmp 18) (.tmp 165) ?_ ?_ g18 (rcA 0 0 0 0 false (.slice A17 n17 c17)) ?_ ?_ zs35 h18.out ?_ ?_ ?_ ?_)
                                 exact rfl
                                 exact rfl
                                 exact rfl
                                 exact rfl
                                 exact rfl
                                 exact size35
                                 exact rc_one _ _ _ _ _ _ _ _
                                 intro w19 h19 m19
                                 have m79 : Mod (fun _ => False) w17 w19 := m18.out.trans m19 (fun k hk e => by have := hg18.out; omega)
                                 have hrow19 := hrow17.out.mod m79 (fun _ _ e => e)
                                 have hC19 := hC17.out.keep m79
                                 replace h19 := hide h19; replace m19 := hide m19; replace m79 := hide m79; replace hC19 := hide hC19; replace hrow19 := hide hrow19)
                              | ((with_reducible refine list_whole 35 (.tmp 18) ?_ ?_ ⟨g18, 0, none⟩ (rcA 0 0 0 0 false (.slice A17 n17 c17)) ?_ ?_ ?_)
                                 exact rfl
                                 exact rfl
                                 exact rfl
                                 exact load_whole h19.out Tryz.underlying35 rfl size35
                                 skip)
                              | (go_at_call 12; (with_reducible refine (hgd.out _).mono ?_); rintro e w20 ⟨rfl, m20⟩
                                 have hc9 : w20.cell? ⟨g18, 9, none⟩ = some (.slice A17 n17 c17) := by rw [cell_of_row w20 _ _ _ 35 (0, 0) (m20.heap h19.out (fun e => e))]; rfl
                                 have hcv : (convert 22 9 (.slice A17 n17 c17)).run Tryz.prog w20 = .ok (.string (strOf (sixt [] f 16))) w20 := conv_str ((hrow19.out.mod m20 (fun _ _ e => e)).rd (ic_len _) rfl)
                                 have hC20 := hC19.out.keep m20
                                 replace hC20 := hide hC20; replace m20 := hide m20))
                            go_roundw
                            case rel =>
                              have hfin : ∃ (i' : Nat) (f' : Int), i' ≤ len ∧ i' ≤ 80 ∧ Value.int IntKind.i64 (i + 1) = .int .i64 i' ∧ 0 ≤ f' ∧ f' ≤ 255 ∧ Value.string (strOf (sixt [] f 16)) = .string (strOf (sixt [] f' 16)) ∧ Hid (∃ T, RI (fun _ _ => False) B u 0 8 (2 + 5 * i') i' T f' w w20) :=
                                ⟨i + 1, f, by omega, by omega, by go_num, hf0, hf1, rfl, hide ⟨T, (hC20.out.less.nex 0 (by decide)).mono (by omega) (by omega)⟩⟩
                              first
                              | exact hfin
                              | ((repeat apply Exists.intro); exact ⟨hfin, rfl⟩)
                            case measure => simp [intOf]; omega
    · have hbl := hC.bel
      have hc1 : decide ((i : Int) < len) = false ∨ decide ((i : Int) < len) = true ∧ decide ((i : Int) < 80) = false := by
        by_cases h : i < len
        · exact .inr ⟨decide_eq_true (by omega), decide_eq_false (by omega)⟩
        · exact .inl (decide_eq_false (by omega))
      replace hbl := hide hbl; replace hC := hide hC
      rcases hc1 with hc1 | ⟨hc1, hc2⟩
      · go_wp2_with fail
        all_goals go_ret
        all_goals exact ⟨rfl, hbl.out⟩
      · go_wp2_with fail
        all_goals go_ret
        all_goals exact ⟨rfl, hbl.out⟩
end topReserves
end Go.Proofs.YtjkpelbhhapebaaGreatDoor
