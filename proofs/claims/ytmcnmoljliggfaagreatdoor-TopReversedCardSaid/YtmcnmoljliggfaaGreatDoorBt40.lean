/- Several texts in one: TopRq1, TopLq2. -/
import Derived.Test.YtmcnmoljliggfaaGreatDoorBt39
import Derived.Test.YtmcnmoljliggfaaGreatDoorBt34
set_option maxRecDepth 100000
set_option maxHeartbeats 8000000
/- Contracts of package ray over rationals. (Written by wip/top/gentopr.py.) -/
namespace Go.Proofs.YtmcnmoljliggfaaGreatDoor
open Go.RowKit

theorem mul_ok {m n : M2} (F : FineM m) (G : FineM n) (hl : longZ (numsM (m.mul n)) = false) (w : World) (v1 v2 : Value) (g1 : MAt w v1 m) (g2 : MAt w v2 n) :
    Calls Tryz.prog 12 #[v1, v2] w (RetM2 w (m.mul n) 0) :=
  rmul_false hl (chk_q F) (chk_q G) (fun V _ _ _ _ _ _ _ _ _ _ _ _ _ _ _ _ _ _ _ _ _ _ _ _ _ _ _ _ _ _ _ _ _ _ h1 h2 h3 h4 => rmul_c
    (rpair_q (FineQ.s5 F.a) (FineQ.s5 G.a) (FineQ.s5 F.b) (FineQ.s5 G.c)) (rpair_q (FineQ.s5 F.a) (FineQ.s5 G.b) (FineQ.s5 F.b) (FineQ.s5 G.d)) (rpair_q (FineQ.s5 F.c) (FineQ.s5 G.a) (FineQ.s5 F.d) (FineQ.s5 G.c)) (rpair_q (FineQ.s5 F.c) (FineQ.s5 G.b) (FineQ.s5 F.d) (FineQ.s5 G.d)) V h1 h2 h3 h4) w v1 g1 v2 g2
/- What the laws of benches stand on. (Written by wip/top/gentopl.py.) -/

section
variable {w w' : World} {g : Nat} {v : Value} {n1 d1 n2 d2 n3 d3 n4 d4 : Int}
end
section
variable {w w' : World} {g : Nat} {v : Value} {n1 d1 n2 d2 : Int}
end
section
variable {w w' : World} {g : Nat} {v : Value} {n d : Int}
end
theorem cellsEL_take : ∀ (l : List ERaw) (k : Nat), cellsEL (l.take k) = (cellsEL l).take (k * 9)
  | [], k => by simp [cellsEL]
  | x :: l, 0 => by simp [cellsEL]
  | x :: l, k + 1 => by
    have ih := cellsEL_take l k
    unfold cellsEL at ih ⊢
    rw [List.take_succ_cons, List.flatMap_cons, List.flatMap_cons, ih, List.take_append, show List.take ((k + 1) * 9) x.cells = x.cells from List.take_of_length_le (by rw [x.cells_length]; omega), x.cells_length, show (k + 1) * 9 - 9 = k * 9 by omega]
theorem cellsEL_drop : ∀ (l : List ERaw) (k : Nat), cellsEL (l.drop k) = (cellsEL l).drop (k * 9)
  | [], k => by simp [cellsEL]
  | x :: l, 0 => by simp [cellsEL]
  | x :: l, k + 1 => by
    have ih := cellsEL_drop l k
    unfold cellsEL at ih ⊢
    rw [List.drop_succ_cons, List.flatMap_cons, ih, List.drop_append, show List.drop ((k + 1) * 9) x.cells = [] from List.drop_of_length_le (by rw [x.cells_length]; omega), x.cells_length, show (k + 1) * 9 - 9 = k * 9 by omega, List.nil_append]
theorem BenchIn.take {w : World} {B : Nat} {A : Option Addr} {l : List ERaw} (h : BenchIn w B A l) (k : Nat) (hk : k ≤ l.length) : BenchIn w B A (l.take k) := by
  refine ⟨?_, h.le, fun x hx => h.els x (List.mem_of_mem_take hx)⟩
  rw [cellsEL_take, List.length_take_of_le hk]
  refine ⟨by rw [List.length_take, h.row.1]; omega, fun h0 => ?_⟩
  obtain ⟨ad, e, h1, h2⟩ := h.row.2 (by omega)
  exact ⟨ad, e, h1, fun j u hu => h2 j u (by rw [List.getElem?_take] at hu; split at hu <;> first | exact hu | cases hu)⟩
theorem BenchIn.drop {w : World} {B : Nat} {A : Option Addr} {l : List ERaw} (h : BenchIn w B A l) (k c : Nat) (hk : k ≤ l.length) (hc : l.length ≤ c) : BenchIn w B (if c = k then A else A.map (·.add (k * 9))) (l.drop k) := by
  refine ⟨?_, h.le, fun x hx => h.els x (List.mem_of_mem_drop hx)⟩
  rw [cellsEL_drop, List.length_drop]
  exact h.row.cut hk hc
theorem sumL_drop (l : List ERaw) (k : Nat) : sumL (l.drop k) ≤ sumL l := by
  have h : sumL (l.take k) + sumL (l.drop k) = sumL l := by
    unfold sumL
    rw [← List.sum_append, ← List.map_append, List.take_append_drop]
  omega
end Go.Proofs.YtmcnmoljliggfaaGreatDoor
