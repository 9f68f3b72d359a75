/-
  The laws' commands, parsed: TEST UNIT READY, READ, WRITE, COMPARE AND WRITE. Conditions: as stated.
-/
import Derived.Test.YtjkpelbhhapebaaGreatDoorParse
namespace Go.Proofs.YtjkpelbhhapebaaGreatDoor
open Go.RowKit
set_option maxRecDepth 100000
theorem andNot_all (x : Int) (h : 0 ≤ x ∧ x ≤ 255) : bits BinOp.andNot IntKind.u8 x 255 = 0 := by
  obtain ⟨n, rfl⟩ := Int.eq_ofNat_of_zero_le h.1
  have hn : n < 256 := by omega
  have : ∀ i : Fin 256, bits BinOp.andNot IntKind.u8 ((i.1 : Nat) : Int) 255 = 0 := by decide +kernel
  exact this ⟨n, hn⟩
theorem z255 : bits BinOp.andNot IntKind.u8 0 255 = 0 := by decide
theorem z248 : bits BinOp.andNot IntKind.u8 0 248 = 0 := by decide
theorem z00 : bits BinOp.andNot IntKind.u8 0 0 = 0 := by decide
theorem z137 : bits BinOp.andNot IntKind.u8 137 137 = 0 := by decide
theorem z1 : bits BinOp.andNot IntKind.u8 1 255 = 0 := by decide
/-- A command of 16 bytes on blocks. -/
def onB (op f lba n : Int) : List Int := [op, f, 0, 0, 0, 0, 0, 0, 0, lba, 0, 0, 0, n, 0, 0]
/-- The flags of a command, taken apart. -/
def FlagOk (f prot : Int) (fua : Bool) : Prop := bits BinOp.andNot IntKind.u8 f 248 = 0 ∧ f / 32 = prot ∧ (bits BinOp.and IntKind.u8 f 8 != 0) = fua ∧ 0 ≤ f ∧ f ≤ 255
def tur : List Int := [0, 0, 0, 0, 0, 0]
theorem bytes_onB {op f lba n : Int} (h1 : 0 ≤ op ∧ op ≤ 255) (h2 : 0 ≤ f ∧ f ≤ 255) (h3 : 0 ≤ lba ∧ lba ≤ 255) (h4 : 0 ≤ n ∧ n ≤ 255) : Bytes (onB op f lba n) := by
  intro x hx
  simp only [onB, List.mem_cons, List.not_mem_nil, or_false] at hx
  rcases hx with rfl | rfl | rfl | rfl | rfl | rfl | rfl | rfl | rfl | rfl | rfl | rfl | rfl | rfl | rfl | rfl <;> omega
theorem val_onB (op f lba n : Int) : val (((onB op f lba n).drop 2).take 8) = lba ∧ val (((onB op f lba n).drop 10).take 4) = n := by
  constructor <;> simp [onB, val]
theorem lt16 {i : Nat} (h : i < 16) : i = 0 ∨ i = 1 ∨ i = 2 ∨ i = 3 ∨ i = 4 ∨ i = 5 ∨ i = 6 ∨ i = 7 ∨ i = 8 ∨ i = 9 ∨ i = 10 ∨ i = 11 ∨ i = 12 ∨ i = 13 ∨ i = 14 ∨ i = 15 := by omega
theorem parse_tur (ab cap : Nat) (w : World) (hr : Rd w 1 (ic .u8) (some ⟨ab, 0, none⟩) 6 tur) (hc : 6 ≤ cap) :
    Calls Tryz.prog 22 #[.slice (some ⟨ab, 0, none⟩) 6 cap] w fun e w' => e = .returned (.tuple #[.agg (cmA (cm0 1)), .agg (seA 0 0 0 false), .bool true]) ∧ Mod (fun _ => False) w w' :=
  parse_any 0 1 6 ab cap tur [0, 0, 0, 0, 0, 0] (cm0 1) w rfl rfl rfl rfl hr (by omega) hc (by omega) rfl rfl (fun i hi => by
    rcases (by omega : i = 0 ∨ i = 1 ∨ i = 2 ∨ i = 3 ∨ i = 4 ∨ i = 5) with rfl | rfl | rfl | rfl | rfl | rfl <;> decide) (fun W => usage_00 0 W) (fun W => kind_any 0 1 (by decide) W)
    (fun W g h1 _ _ => fill_tur g cap ab 6 0 W h1)
theorem odd_rw (op f lba n : Int) (hop : bits BinOp.andNot IntKind.u8 op op = 0) (hf : bits BinOp.andNot IntKind.u8 f 248 = 0) (h3 : 0 ≤ lba ∧ lba ≤ 255) (h4 : 0 ≤ n ∧ n ≤ 255) (i : Nat) (hi : i < 16) : oddB (onB op f lba n) [op, 248, 255, 255, 255, 255, 255, 255, 255, 255, 255, 255, 255, 255, 0, 0] i = 0 := by
  rcases lt16 hi with rfl | rfl | rfl | rfl | rfl | rfl | rfl | rfl | rfl | rfl | rfl | rfl | rfl | rfl | rfl | rfl
  · exact hop
  · exact hf
  any_goals (first | exact z255 | exact z00 | exact z248)
  · exact andNot_all lba h3
  · exact andNot_all n h4
theorem parse_rw (op k f prot : Int) (fua : Bool) (lba n ab cap : Nat) (w : World) (hk : op = 136 ∧ k = 7 ∨ op = 138 ∧ k = 8) (hf : FlagOk f prot fua) (h3 : lba ≤ 255) (h4 : n ≤ 255) (hr : Rd w 1 (ic .u8) (some ⟨ab, 0, none⟩) 16 (onB op f lba n)) (hc : 16 ≤ cap) :
    Calls Tryz.prog 22 #[.slice (some ⟨ab, 0, none⟩) 16 cap] w fun e w' => e = .returned (.tuple #[.agg (cmA (cmB k lba n fua prot false)), .agg (seA 0 0 0 false), .bool true]) ∧ Mod (fun _ => False) w w' := by
  obtain ⟨f1, f2, f3, f4, f5⟩ := hf
  have hb : Bytes (onB op f lba n) := bytes_onB (by rcases hk with ⟨rfl, -⟩ | ⟨rfl, -⟩ <;> decide) ⟨f4, f5⟩ (by omega) (by omega)
  have hv := val_onB op f lba n
  rcases hk with ⟨rfl, rfl⟩ | ⟨rfl, rfl⟩
  · exact parse_any 136 7 16 ab cap _ _ _ w rfl rfl rfl rfl hr (by omega) hc (by omega) rfl rfl (odd_rw 136 f lba n (by decide) f1 (by omega) (by omega)) (fun W => usage_88 0 W) (fun W => kind_any 136 7 (by decide) W)
      (fun W g hcm hr' hne => fill_rw g cap lba n ab 7 f prot 0 fua _ W (.inl rfl) hcm hr' hb hc hne hv.1 hv.2 (by omega) rfl f2 f3)
  · exact parse_any 138 8 16 ab cap _ _ _ w rfl rfl rfl rfl hr (by omega) hc (by omega) rfl rfl (odd_rw 138 f lba n (by decide) f1 (by omega) (by omega)) (fun W => usage_8a 0 W) (fun W => kind_any 138 8 (by decide) W)
      (fun W g hcm hr' hne => fill_rw g cap lba n ab 8 f prot 0 fua _ W (.inr rfl) hcm hr' hb hc hne hv.1 hv.2 (by omega) rfl f2 f3)
theorem parse_cw (lba ab cap : Nat) (w : World) (h3 : lba ≤ 255) (hr : Rd w 1 (ic .u8) (some ⟨ab, 0, none⟩) 16 (onB 137 0 lba 1)) (hc : 16 ≤ cap) :
    Calls Tryz.prog 22 #[.slice (some ⟨ab, 0, none⟩) 16 cap] w fun e w' => e = .returned (.tuple #[.agg (cmA (cmB 14 lba 1 false 0 false)), .agg (seA 0 0 0 false), .bool true]) ∧ Mod (fun _ => False) w w' := by
  have hb : Bytes (onB 137 0 lba 1) := bytes_onB (by decide) (by decide) (by omega) (by decide)
  have hv := val_onB 137 0 lba 1
  exact parse_any 137 14 16 ab cap _ _ _ w rfl rfl rfl rfl hr (by omega) hc (by omega) rfl rfl (fun i hi => by
      rcases lt16 hi with rfl | rfl | rfl | rfl | rfl | rfl | rfl | rfl | rfl | rfl | rfl | rfl | rfl | rfl | rfl | rfl
      any_goals (first | exact z255 | exact z00 | exact z248)
      · exact z137
      · exact andNot_all lba (by omega)
      · exact z1) (fun W => usage_89 0 W) (fun W => kind_any 137 14 (by decide) W)
      (fun W g hcm hr' hne => fill_cw g cap lba ab 0 _ W hcm hr' hb hc hne hv.1 rfl rfl)
end Go.Proofs.YtjkpelbhhapebaaGreatDoor
