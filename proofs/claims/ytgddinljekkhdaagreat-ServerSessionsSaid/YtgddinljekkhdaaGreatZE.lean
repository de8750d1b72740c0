/- The loop of the law: its states by tags. -/
import Derived.Test.YtgddinljekkhdaaGreatZB
set_option linter.unusedSimpArgs false
set_option linter.unusedVariables false
namespace Go.Proofs.YtgddinljekkhdaaGreat.U
open Go Go.Eng
set_option maxRecDepth 100000
def lwB (G m r t : Value) (a : Nat) : Value := bif Nat.ble 30 a then .int .i64 ((a - 30 : Nat) : Int) else match a with
  | 5 => .int .u64 0
  | 6 => .int .i64 0
  | 7 => .bool false
  | 20 => G
  | 21 => m
  | 22 => r
  | 23 => t
  | 24 => iv 100
  | 25 => iv 67108864
  | _ => .bool true
def lwV (G m r t : Value) (i a : Nat) : Value := bif Nat.beq a 9 then .int .i64 (i : Int) else bif Nat.beq a 10 then .int .i64 ((i + 1 : Nat) : Int) else lwB G m r t a
def gensV (m : Nat) : Value := lv (List.replicate m [iv 0])
def bodV (m : Nat) : Value := lv (List.replicate m (rp 4 (iv 0) ++ [nlS, iv 0, ff, iv 0, ff, iv 0, ff, iv 0, ff, iv 0, ff, iv 0, ff, iv 0, ff, iv 0, ff, iv 0, ff, iv 0, ff, ff, iv 0]))
def lwL (V : Value) (m : Nat) : Nat → Value
  | 0 => nlS
  | 1 => V
  | 2 => gensV m
  | 3 => bodV m
  | _ => nlS
def lwC : List TgC := [⟨9, [5, 6, 7, 20, 7, 25, 7, 21, 22, 6, 6], [2, 0, 3], [5, 6, 7, 20, 7, 25, 7, 21, 22, 6, 6, 5, 6, 7, 20, 7, 25, 7, 21, 22, 6, 6], [2, 0, 3, 2, 0, 3, 0]⟩, ⟨10, [], [], [], [0]⟩]
def s19 : List Nat := [20, 21, 22, 23, 24, 20, 21, 22, 23, 24, 6, 7, 20, 7, 25, 7, 21, 22, 9]
def s22 : List Nat := [20, 21, 22, 23, 24, 20, 21, 22, 23, 24, 5, 6, 7, 20, 7, 25, 7, 21, 22, 6, 6, 9]
def lwS (q : Nat) : List Nat := bif Nat.ble q 4 then s19 else s22
def lwt : List Nat := [1, 2, 0, 3]
def lwk (j : Nat) : Bool := Nat.ble 1 j && Nat.ble j 92
theorem lwV_kon (G m r t V : Value) (n i : Nat) : Kon (lwV G m r t i) (lwL V n) := by
  refine ⟨rfl, rfl, rfl, rfl, fun d => ?_⟩
  show (bif Nat.beq (30 + d) 9 then _ else bif Nat.beq (30 + d) 10 then _ else lwB G m r t (30 + d)) = _
  have h9 : Nat.beq (30 + d) 9 = false := by
    cases hb : Nat.beq (30 + d) 9 with
    | false => rfl
    | true => exact absurd (Nat.eq_of_beq_eq_true hb) (by omega)
  have h10 : Nat.beq (30 + d) 10 = false := by
    cases hb : Nat.beq (30 + d) 10 with
    | false => rfl
    | true => exact absurd (Nat.eq_of_beq_eq_true hb) (by omega)
  rw [h9, h10, cond_false, cond_false]
  unfold lwB
  rw [Nat.ble_eq_true_of_le (by omega), cond_true, Nat.add_sub_cancel_left]
theorem lwV_hv (G m r t : Value) (i a : Nat) (h9 : a ≠ 9) (h10 : a ≠ 10) : lwV G m r t i a = lwV G m r t (i + 1) a := by
  have e9 : Nat.beq a 9 = false := by
    cases hb : Nat.beq a 9 with
    | false => rfl
    | true => exact absurd (Nat.eq_of_beq_eq_true hb) h9
  have e10 : Nat.beq a 10 = false := by
    cases hb : Nat.beq a 10 with
    | false => rfl
    | true => exact absurd (Nat.eq_of_beq_eq_true hb) h10
  unfold lwV
  rw [e9, e10]; rfl
theorem clone_F : c67_c.F [] [] = some ([], [nlS]) := by kernel_rfl
theorem copy1 (G r t V : Value) (i : Nat) : c66_c.F ([5, 6, 7, 20, 7, 25, 7, 21, 22, 6, 6].map (lwV G (iv 1) r t i)) ([2, 0, 3].map (lwL V 1)) = some (([5, 6, 7, 20, 7, 25, 7, 21, 22, 6, 6, 5, 6, 7, 20, 7, 25, 7, 21, 22, 6, 6]).map (lwV G (iv 1) r t i), [2, 0, 3, 2, 0, 3, 0].map (lwL V 1)) := by kernel_rfl
theorem copy2 (G r t V : Value) (i : Nat) : c66_c.F ([5, 6, 7, 20, 7, 25, 7, 21, 22, 6, 6].map (lwV G (iv 2) r t i)) ([2, 0, 3].map (lwL V 2)) = some (([5, 6, 7, 20, 7, 25, 7, 21, 22, 6, 6, 5, 6, 7, 20, 7, 25, 7, 21, 22, 6, 6]).map (lwV G (iv 2) r t i), [2, 0, 3, 2, 0, 3, 0].map (lwL V 2)) := by kernel_rfl
theorem copy3 (G r t V : Value) (i : Nat) : c66_c.F ([5, 6, 7, 20, 7, 25, 7, 21, 22, 6, 6].map (lwV G (iv 3) r t i)) ([2, 0, 3].map (lwL V 3)) = some (([5, 6, 7, 20, 7, 25, 7, 21, 22, 6, 6, 5, 6, 7, 20, 7, 25, 7, 21, 22, 6, 6]).map (lwV G (iv 3) r t i), [2, 0, 3, 2, 0, 3, 0].map (lwL V 3)) := by kernel_rfl
theorem copy4 (G r t V : Value) (i : Nat) : c66_c.F ([5, 6, 7, 20, 7, 25, 7, 21, 22, 6, 6].map (lwV G (iv 4) r t i)) ([2, 0, 3].map (lwL V 4)) = some (([5, 6, 7, 20, 7, 25, 7, 21, 22, 6, 6, 5, 6, 7, 20, 7, 25, 7, 21, 22, 6, 6]).map (lwV G (iv 4) r t i), [2, 0, 3, 2, 0, 3, 0].map (lwL V 4)) := by kernel_rfl
theorem copy5 (G r t V : Value) (i : Nat) : c66_c.F ([5, 6, 7, 20, 7, 25, 7, 21, 22, 6, 6].map (lwV G (iv 5) r t i)) ([2, 0, 3].map (lwL V 5)) = some (([5, 6, 7, 20, 7, 25, 7, 21, 22, 6, 6, 5, 6, 7, 20, 7, 25, 7, 21, 22, 6, 6]).map (lwV G (iv 5) r t i), [2, 0, 3, 2, 0, 3, 0].map (lwL V 5)) := by kernel_rfl
theorem copy6 (G r t V : Value) (i : Nat) : c66_c.F ([5, 6, 7, 20, 7, 25, 7, 21, 22, 6, 6].map (lwV G (iv 6) r t i)) ([2, 0, 3].map (lwL V 6)) = some (([5, 6, 7, 20, 7, 25, 7, 21, 22, 6, 6, 5, 6, 7, 20, 7, 25, 7, 21, 22, 6, 6]).map (lwV G (iv 6) r t i), [2, 0, 3, 2, 0, 3, 0].map (lwL V 6)) := by kernel_rfl
theorem okd1 : okD lwC lwS lwt lwk 1 lw_D1 = true := by kernel_rfl
theorem okd2 : okD lwC lwS lwt lwk 2 lw_D2 = true := by kernel_rfl
theorem okd3 : okD lwC lwS lwt lwk 3 lw_D3 = true := by kernel_rfl
theorem okd4 : okD lwC lwS lwt lwk 4 lw_D4 = true := by kernel_rfl
theorem okd5 : okD lwC lwS lwt lwk 5 lw_D5 = true := by kernel_rfl
theorem okd6 : okD lwC lwS lwt lwk 6 lw_D6 = true := by kernel_rfl
theorem okd7 : okD lwC lwS lwt lwk 7 lw_D7 = true := by kernel_rfl
theorem okd8 : okD lwC lwS lwt lwk 8 lw_D8 = true := by kernel_rfl
theorem okd9 : okD lwC lwS lwt lwk 9 lw_D9 = true := by kernel_rfl
theorem okd10 : okD lwC lwS lwt lwk 10 lw_D10 = true := by kernel_rfl
theorem okd11 : okD lwC lwS lwt lwk 11 lw_D11 = true := by kernel_rfl
theorem okd12 : okD lwC lwS lwt lwk 12 lw_D12 = true := by kernel_rfl
theorem okd13 : okD lwC lwS lwt lwk 13 lw_D13 = true := by kernel_rfl
theorem okd14 : okD lwC lwS lwt lwk 14 lw_D14 = true := by kernel_rfl
theorem okd15 : okD lwC lwS lwt lwk 15 lw_D15 = true := by kernel_rfl
theorem okd16 : okD lwC lwS lwt lwk 16 lw_D16 = true := by kernel_rfl
theorem okd17 : okD lwC lwS lwt lwk 17 lw_D17 = true := by kernel_rfl
theorem okd18 : okD lwC lwS lwt lwk 18 lw_D18 = true := by kernel_rfl
theorem okd19 : okD lwC lwS lwt lwk 19 lw_D19 = true := by kernel_rfl
theorem okd20 : okD lwC lwS lwt lwk 20 lw_D20 = true := by kernel_rfl
theorem okd21 : okD lwC lwS lwt lwk 21 lw_D21 = true := by kernel_rfl
theorem okd22 : okD lwC lwS lwt lwk 22 lw_D22 = true := by kernel_rfl
theorem okd23 : okD lwC lwS lwt lwk 23 lw_D23 = true := by kernel_rfl
theorem okd24 : okD lwC lwS lwt lwk 24 lw_D24 = true := by kernel_rfl
theorem okd25 : okD lwC lwS lwt lwk 25 lw_D25 = true := by kernel_rfl
theorem okd26 : okD lwC lwS lwt lwk 26 lw_D26 = true := by kernel_rfl
theorem okd27 : okD lwC lwS lwt lwk 27 lw_D27 = true := by kernel_rfl
theorem okd28 : okD lwC lwS lwt lwk 28 lw_D28 = true := by kernel_rfl
theorem okd29 : okD lwC lwS lwt lwk 29 lw_D29 = true := by kernel_rfl
theorem okd30 : okD lwC lwS lwt lwk 30 lw_D30 = true := by kernel_rfl
theorem okd31 : okD lwC lwS lwt lwk 31 lw_D31 = true := by kernel_rfl
theorem okd32 : okD lwC lwS lwt lwk 32 lw_D32 = true := by kernel_rfl
theorem okd33 : okD lwC lwS lwt lwk 33 lw_D33 = true := by kernel_rfl
theorem okd34 : okD lwC lwS lwt lwk 34 lw_D34 = true := by kernel_rfl
theorem okd35 : okD lwC lwS lwt lwk 35 lw_D35 = true := by kernel_rfl
theorem okd36 : okD lwC lwS lwt lwk 36 lw_D36 = true := by kernel_rfl
theorem okd37 : okD lwC lwS lwt lwk 37 lw_D37 = true := by kernel_rfl
theorem okd38 : okD lwC lwS lwt lwk 38 lw_D38 = true := by kernel_rfl
theorem okd39 : okD lwC lwS lwt lwk 39 lw_D39 = true := by kernel_rfl
theorem okd40 : okD lwC lwS lwt lwk 40 lw_D40 = true := by kernel_rfl
theorem okd41 : okD lwC lwS lwt lwk 41 lw_D41 = true := by kernel_rfl
theorem okd42 : okD lwC lwS lwt lwk 42 lw_D42 = true := by kernel_rfl
theorem okd43 : okD lwC lwS lwt lwk 43 lw_D43 = true := by kernel_rfl
theorem okd44 : okD lwC lwS lwt lwk 44 lw_D44 = true := by kernel_rfl
theorem okd45 : okD lwC lwS lwt lwk 45 lw_D45 = true := by kernel_rfl
theorem okd46 : okD lwC lwS lwt lwk 46 lw_D46 = true := by kernel_rfl
theorem okd47 : okD lwC lwS lwt lwk 47 lw_D47 = true := by kernel_rfl
theorem okd48 : okD lwC lwS lwt lwk 48 lw_D48 = true := by kernel_rfl
theorem okd49 : okD lwC lwS lwt lwk 49 lw_D49 = true := by kernel_rfl
theorem okd50 : okD lwC lwS lwt lwk 50 lw_D50 = true := by kernel_rfl
theorem okd51 : okD lwC lwS lwt lwk 51 lw_D51 = true := by kernel_rfl
theorem okd52 : okD lwC lwS lwt lwk 52 lw_D52 = true := by kernel_rfl
theorem okd53 : okD lwC lwS lwt lwk 53 lw_D53 = true := by kernel_rfl
theorem okd54 : okD lwC lwS lwt lwk 54 lw_D54 = true := by kernel_rfl
theorem okd55 : okD lwC lwS lwt lwk 55 lw_D55 = true := by kernel_rfl
theorem okd56 : okD lwC lwS lwt lwk 56 lw_D56 = true := by kernel_rfl
theorem okd57 : okD lwC lwS lwt lwk 57 lw_D57 = true := by kernel_rfl
theorem okd58 : okD lwC lwS lwt lwk 58 lw_D58 = true := by kernel_rfl
theorem okd59 : okD lwC lwS lwt lwk 59 lw_D59 = true := by kernel_rfl
theorem okd60 : okD lwC lwS lwt lwk 60 lw_D60 = true := by kernel_rfl
theorem okd61 : okD lwC lwS lwt lwk 61 lw_D61 = true := by kernel_rfl
theorem okd62 : okD lwC lwS lwt lwk 62 lw_D62 = true := by kernel_rfl
theorem okd63 : okD lwC lwS lwt lwk 63 lw_D63 = true := by kernel_rfl
theorem okd64 : okD lwC lwS lwt lwk 64 lw_D64 = true := by kernel_rfl
theorem okd65 : okD lwC lwS lwt lwk 65 lw_D65 = true := by kernel_rfl
theorem okd66 : okD lwC lwS lwt lwk 66 lw_D66 = true := by kernel_rfl
theorem okd67 : okD lwC lwS lwt lwk 67 lw_D67 = true := by kernel_rfl
theorem okd68 : okD lwC lwS lwt lwk 68 lw_D68 = true := by kernel_rfl
theorem okd69 : okD lwC lwS lwt lwk 69 lw_D69 = true := by kernel_rfl
theorem okd70 : okD lwC lwS lwt lwk 70 lw_D70 = true := by kernel_rfl
theorem okd71 : okD lwC lwS lwt lwk 71 lw_D71 = true := by kernel_rfl
theorem okd72 : okD lwC lwS lwt lwk 72 lw_D72 = true := by kernel_rfl
theorem okd73 : okD lwC lwS lwt lwk 73 lw_D73 = true := by kernel_rfl
theorem okd74 : okD lwC lwS lwt lwk 74 lw_D74 = true := by kernel_rfl
theorem okd75 : okD lwC lwS lwt lwk 75 lw_D75 = true := by kernel_rfl
theorem okd76 : okD lwC lwS lwt lwk 76 lw_D76 = true := by kernel_rfl
theorem okd77 : okD lwC lwS lwt lwk 77 lw_D77 = true := by kernel_rfl
theorem okd78 : okD lwC lwS lwt lwk 78 lw_D78 = true := by kernel_rfl
theorem okd79 : okD lwC lwS lwt lwk 79 lw_D79 = true := by kernel_rfl
theorem okd80 : okD lwC lwS lwt lwk 80 lw_D80 = true := by kernel_rfl
theorem okd81 : okD lwC lwS lwt lwk 81 lw_D81 = true := by kernel_rfl
theorem okd82 : okD lwC lwS lwt lwk 82 lw_D82 = true := by kernel_rfl
theorem okd83 : okD lwC lwS lwt lwk 83 lw_D83 = true := by kernel_rfl
theorem okd84 : okD lwC lwS lwt lwk 84 lw_D84 = true := by kernel_rfl
theorem okd85 : okD lwC lwS lwt lwk 85 lw_D85 = true := by kernel_rfl
theorem okd86 : okD lwC lwS lwt lwk 86 lw_D86 = true := by kernel_rfl
theorem okd87 : okD lwC lwS lwt lwk 87 lw_D87 = true := by kernel_rfl
theorem okd88 : okD lwC lwS lwt lwk 88 lw_D88 = true := by kernel_rfl
theorem okd89 : okD lwC lwS lwt lwk 89 lw_D89 = true := by kernel_rfl
theorem okd90 : okD lwC lwS lwt lwk 90 lw_D90 = true := by kernel_rfl
theorem okd91 : okD lwC lwS lwt lwk 91 lw_D91 = true := by kernel_rfl
theorem okd92 : okD lwC lwS lwt lwk 92 lw_D92 = true := by kernel_rfl
end Go.Proofs.YtgddinljekkhdaaGreat.U
