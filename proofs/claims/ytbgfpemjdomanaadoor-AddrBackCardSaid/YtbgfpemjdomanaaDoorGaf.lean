/- Part Gaf of the proof: laws used by the law of this claim. -/
import Derived.Laws.RangeAny
import Derived.Test.YtbgfpemjdomanaaDoorGad
set_option linter.all false
namespace Go.Proofs.YtbgfpemjdomanaaDoor
open Go Go.Am Go.RowKit Go.Mix Go.Bas
set_option maxRecDepth 100000
def vlN (c : Int) : Int := if 48 ≤ c ∧ c ≤ 57 then c - 48 else if 97 ≤ c ∧ c ≤ 102 then c - 97 + 10 else if 65 ≤ c ∧ c ≤ 70 then c - 65 + 10 else 0
def vlB (c : Int) : Bool := decide ((48 ≤ c ∧ c ≤ 57) ∨ (97 ≤ c ∧ c ≤ 102) ∨ (65 ≤ c ∧ c ≤ 70))
theorem iterPos_of {w : World} {k : Nat} {s : ByteArray} {p : Nat} (h : w.heap[k]? = some (.stringIter s p)) : w.iterPos k = p := by simp [World.iterPos, h]
theorem below_drewN {B : Nat} {a w : World} (h : Below B a w) (n : Nat) : Below B a (w.drewN n) := h.trans ⟨rfl, rfl, rfl, Nat.le_refl _, fun _ _ => rfl⟩
def grS (n v : Int) : Int := bits .or .i64 (wrap64 (n * 16)) v
def grR : List UInt8 → Int → Option Int
  | [], n => some n
  | c :: l, n => if vlB c.toNat = true then grR l (grS n (vlN c.toNat)) else none
def grN (s : List UInt8) : Int := match grR s 0 with | some n => n | none => 0
def grB (s : List UInt8) : Bool := match grR s 0 with | some _ => decide (1 ≤ s.length ∧ s.length ≤ 4) | none => false
theorem gr_no {s : List UInt8} (h : grR s 0 = none) : Ending.returned (.tuple #[.int .i64 0, .bool false]) = Ending.returned (.tuple #[.int .i64 (grN s), .bool (grB s)]) := by
  unfold grN grB; rw [h]
theorem gr_yes {s : List UInt8} {n : Int} {b : Bool} (h : grR s 0 = some n) (hb : decide (1 ≤ s.length ∧ s.length ≤ 4) = b) : Ending.returned (.tuple #[.int .i64 n, .bool b]) = Ending.returned (.tuple #[.int .i64 (grN s), .bool (grB s)]) := by
  unfold grN grB; rw [h, ← hb]
theorem width_pos' (s : ByteArray) (pos : Nat) (h : pos < s.size) : 1 ≤ (Utf8.decode s pos).2 := by
  rcases Nat.lt_or_ge (s[pos]'h).toNat 128 with ha | ha
  · rw [decode_ascii s pos h ha]; exact Nat.le_refl _
  · exact (decode_high s pos h ha).2
set_option maxRecDepth 8000 in
set_option maxHeartbeats 1000000 in
theorem group_calls (s : ByteArray) (w : World) (hsz : s.size ≤ 4294967296) : Calls Tryd.prog 34 #[.string s] w fun e w' => e = .returned (.tuple #[.int .i64 (grN s.data.toList), .bool (grB s.data.toList)]) ∧ Below w.heap.size w w' := by
  go_enter Tryd.func34, Tryd.ntmps34
  go_wp2
  go_loopw [4] (fun v wr => ∃ (pos : Nat) (n : Int), v = .int .i64 n ∧ wr.heap[w.heap.size]? = some (.stringIter s pos) ∧ Below w.heap.size w wr ∧ Hid (grR (s.data.toList.drop pos) n = grR s.data.toList 0) ∧ pos ≤ s.size) (fun _ wr => s.size - wr.iterPos w.heap.size)
  case atStart => exact ⟨0, 0, rfl, World.iter_heap w s 0, (Below.refl _ _).alloc (Nat.le_refl _) _, rfl, by omega⟩
  case round =>
    obtain ⟨pos, n, rfl, hit, hbw, HS, hb⟩ := hrel
    have hpos0 := iterPos_of hit
    by_cases hp : pos < s.size
    · have hnx : ∀ ty, (Instr.next (.pointer (some ⟨w.heap.size, 0, none⟩)) true ty).run Tryd.prog wr = _ := fun ty => Lib.run_next_any_at wr w.heap.size s pos ty hit hp
      have hit2 := Lib.iterAt_heap wr w.heap.size s pos (pos + (Utf8.decode s pos).2) hit
      have hbw2 := Lib.below_iterAt hbw (k := w.heap.size) (Nat.le_refl _) s (pos + (Utf8.decode s pos).2)
      obtain ⟨W1, hW1⟩ : ∃ W1, W1 = wr.iterAt w.heap.size s (pos + (Utf8.decode s pos).2) := ⟨_, rfl⟩
      rw [← hW1] at hnx hit2 hbw2
      clear hW1 hit hbw
      have hdr : s.data.toList.drop pos = s[pos]'hp :: s.data.toList.drop (pos + 1) := by
        rw [List.drop_eq_getElem_cons (by simpa using hp)]; rfl
      go_wp2
      all_goals first
        | (go_ret2
           refine ⟨gr_no ?_, by first | exact hbw2 | exact below_drewN hbw2 _⟩
           rw [← HS.out, hdr]
           rcases Nat.lt_or_ge (s[pos]'hp).toNat 128 with ha | ha
           · have hd := decode_ascii s pos hp ha
             have hc : (((Utf8.decode s pos).1 : Nat) : Int) = ((s[pos]'hp).toNat : Int) := by rw [hd]
             unfold grR
             rw [if_neg]
             unfold vlB
             simp only [decide_eq_true_eq]
             omega
           · have hh := (decode_high s pos hp ha).1
             unfold grR
             rw [if_neg]
             unfold vlB
             simp only [decide_eq_true_eq]
             omega)
        | (go_roundw
           case rel =>
             rcases Nat.lt_or_ge (s[pos]'hp).toNat 128 with ha | ha
             · have hd := decode_ascii s pos hp ha
               have hc : (((Utf8.decode s pos).1 : Nat) : Int) = ((s[pos]'hp).toNat : Int) := by rw [hd]
               have hw : (Utf8.decode s pos).2 = 1 := by rw [hd]
               rw [hw] at hit2
               refine ⟨pos + 1, _, rfl, hit2, by first | exact hbw2 | exact below_drewN hbw2 _, ?_, by omega⟩
               show _ = _
               rw [← HS.out, hdr]
               conv => rhs; unfold grR
               rw [if_pos (by unfold vlB; simp only [decide_eq_true_eq]; omega)]
               unfold grS
               congr 2
               unfold vlN
               (repeat' split) <;> omega
             · have := (decode_high s pos hp ha).1
               omega
           case measure =>
             have := width_pos' s pos hp
             first
               | (rw [iterPos_of hit2, hpos0]; omega)
               | (rw [iterPos_of (w := W1.drewN _) hit2, hpos0]; omega))
    · have hnx : ∀ ty, (Instr.next (.pointer (some ⟨w.heap.size, 0, none⟩)) true ty).run Tryd.prog wr = _ := fun ty => Lib.run_next_end_at wr w.heap.size s pos ty hit hp
      have e0 : grR s.data.toList 0 = some n := by rw [← HS.out, List.drop_eq_nil_of_le (by simpa using hp)]; rfl
      go_wp2
      all_goals
        go_ret2
        refine ⟨gr_yes e0 ?_, by first | exact hbw | exact below_drewN hbw _⟩
        first
          | (apply decide_eq_true; simp; omega)
          | (apply decide_eq_false; simp; omega)
          | (apply decide_eq_decide.2; simp; omega)
end Go.Proofs.YtbgfpemjdomanaaDoor

namespace Go.Proofs.YtbgfpemjdomanaaDoor
open Go Go.Am Go.RowKit Go.Mix Go.Bas
set_option maxRecDepth 100000
def cGroup : List V → Option (V × Bool)
  | [.str s] => some (.tup [.int .i64 (grN s), .bool (grB s)], decide (s.length ≤ 4294967296))
  | _ => none
theorem group_con : ∀ vs v, cGroup vs = some (v, true) → SpecV Tryd.prog 34 vs v := by
  intro vs v h; unfold cGroup at h; split at h
  · rename_i s
    injection h with h; injection h with h hb; subst h
    intro O w cs hO hv
    obtain ⟨a, rfl, ha⟩ := hv.one_inv
    obtain rfl := ha.str_inv
    refine (group_calls ⟨s.toArray⟩ w (by simpa [ByteArray.size] using of_decide_eq_true hb)).mono ?_
    rintro e w' ⟨rfl, hb⟩
    exact ⟨hb, _, rfl, .val (.tup (.cons (VRep.i nofun) (.cons VRep.b .nil)))⟩
  · cases h
noncomputable def af_adOf : AF := afOf Tryd.prog Tryd.f12 [.unr 21]
theorem af_adOf_ok : AllOk Tryd.prog 12 af_adOf := .flat Tryd.func12 (by kernel_rfl) (by kernel_rfl) (by kernel_rfl) (by kernel_rfl) (by kernel_rfl)
noncomputable def GEadof : List (Nat × Con) := []

theorem GEadof_ok : GOk Tryd.prog GEadof := .nil

noncomputable def IEadof : List (Nat × AF) := []
theorem IEadof_ok : IOk Tryd.prog IEadof := .nil
noncomputable def CEadof : List (Nat × (List Nat × (S → Option (Bool × Tr)))) := []
theorem CEadof_ok : COk Tryd.prog CEadof := .nil
noncomputable def XEadof : List (Nat × (List Sh × (List V → PT))) := []
theorem XEadof_ok : XOk Tryd.prog XEadof := .nil
noncomputable def Eadof : Env := ⟨Tryd.prog, GEadof, IEadof, CEadof, XEadof⟩
theorem Eadof_ok : EnvOk Eadof := ⟨by kernel_rfl, GEadof_ok, IEadof_ok, CEadof_ok, XEadof_ok⟩
def ofW (l : List V) (i : Nat) : List UInt8 := if i < l.length then two (toI (l.getD i .undef)) else [0, 0]
/-- the address of numbers -/
def ofL (l : List V) : List UInt8 := ofW l 0 ++ (ofW l 1 ++ (ofW l 2 ++ (ofW l 3 ++ (ofW l 4 ++ (ofW l 5 ++ (ofW l 6 ++ ofW l 7))))))
theorem adOf_t (l : List V) : callV Eadof af_adOf [.rows (.int .i64) l] =
 bif decide ((0 : Int) < (↑l.length : Int)) then
 bif andT true (inB (0 : Int) l.length) then
 bif decide ((1 : Int) < (↑l.length : Int)) then
 bif andT true (inB (1 : Int) l.length) then
 bif decide ((2 : Int) < (↑l.length : Int)) then
 bif andT true (inB (2 : Int) l.length) then
 bif decide ((3 : Int) < (↑l.length : Int)) then
 bif andT true (inB (3 : Int) l.length) then
 bif decide ((4 : Int) < (↑l.length : Int)) then
 bif andT true (inB (4 : Int) l.length) then
 bif decide ((5 : Int) < (↑l.length : Int)) then
 bif andT true (inB (5 : Int) l.length) then
 bif decide ((6 : Int) < (↑l.length : Int)) then
 bif andT true (inB (6 : Int) l.length) then
 bif decide ((7 : Int) < (↑l.length : Int)) then
 bif andT true (inB (7 : Int) l.length) then
 bif decide ((8 : Int) < (↑l.length : Int)) then
 bif andT true (inB (8 : Int) l.length) then
 bif decide ((9 : Int) < (↑l.length : Int)) then
 bif andT true (inB (9 : Int) l.length) then
 bif decide ((10 : Int) < (↑l.length : Int)) then
 bif andT true (inB (10 : Int) l.length) then
 bif decide ((11 : Int) < (↑l.length : Int)) then
 bif andT true (inB (11 : Int) l.length) then
 bif decide ((12 : Int) < (↑l.length : Int)) then
 bif andT true (inB (12 : Int) l.length) then
 bif decide ((13 : Int) < (↑l.length : Int)) then
 bif andT true (inB (13 : Int) l.length) then
 bif decide ((14 : Int) < (↑l.length : Int)) then
 bif andT true (inB (14 : Int) l.length) then
 bif decide ((15 : Int) < (↑l.length : Int)) then
 bif andT true (inB (15 : Int) l.length) then
 bif decide ((16 : Int) < (↑l.length : Int)) then
 bif andT true (inB (16 : Int) l.length) then
 bif decide ((17 : Int) < (↑l.length : Int)) then
 bif andT true (inB (17 : Int) l.length) then
 bif
 decide
 ((18 : Int) < (↑l.length : Int)) then
 bif andT true (inB (18 : Int) l.length) then
 bif
 decide
 ((19 : Int) <
 (↑l.length : Int)) then
 bif
 andT true
 (inB (19 : Int) l.length) then
 bif
 decide
 ((20 : Int) <
 (↑l.length : Int)) then
 bif
 andT true
 (inB (20 : Int) l.length) then
 none
 else none
 else
 some
 (V.barr (16 : Nat)
 (((((((((((((((((List.replicate
 (16 :
 Nat)
 (0 :
 UInt8)).set
 (0 :
 Nat)
 (u8
 (IntKind.u8.wrap
 ((toI
 (l.getD
 (0 :
 Nat)
 V.undef)).fdiv
 (256 :
 Int))))).set
 (1 :
 Nat)
 (u8
 (IntKind.u8.wrap
 (toI
 (l.getD
 (0 :
 Nat)
 V.undef))))).set
 (2 :
 Nat)
 (u8
 (IntKind.u8.wrap
 ((toI
 (l.getD
 (1 :
 Nat)
 V.undef)).fdiv
 (256 :
 Int))))).set
 (3 :
 Nat)
 (u8
 (IntKind.u8.wrap
 (toI
 (l.getD
 (1 :
 Nat)
 V.undef))))).set
 (4 :
 Nat)
 (u8
 (IntKind.u8.wrap
 ((toI
 (l.getD
 (2 :
 Nat)
 V.undef)).fdiv
 (256 :
 Int))))).set
 (5 :
 Nat)
 (u8
 (IntKind.u8.wrap
 (toI
 (l.getD
 (2 :
 Nat)
 V.undef))))).set
 (6 :
 Nat)
 (u8
 (IntKind.u8.wrap
 ((toI
 (l.getD
 (3 :
 Nat)
 V.undef)).fdiv
 (256 :
 Int))))).set
 (7 :
 Nat)
 (u8
 (IntKind.u8.wrap
 (toI
 (l.getD
 (3 :
 Nat)
 V.undef))))).set
 (8 :
 Nat)
 (u8
 (IntKind.u8.wrap
 ((toI
 (l.getD
 (4 :
 Nat)
 V.undef)).fdiv
 (256 :
 Int))))).set
 (9 :
 Nat)
 (u8
 (IntKind.u8.wrap
 (toI
 (l.getD
 (4 :
 Nat)
 V.undef))))).set
 (10 : Nat)
 (u8
 (IntKind.u8.wrap
 ((toI
 (l.getD
 (5 :
 Nat)
 V.undef)).fdiv
 (256 :
 Int))))).set
 (11 : Nat)
 (u8
 (IntKind.u8.wrap
 (toI
 (l.getD
 (5 :
 Nat)
 V.undef))))).set
 (12 : Nat)
 (u8
 (IntKind.u8.wrap
 ((toI
 (l.getD
 (6 :
 Nat)
 V.undef)).fdiv
 (256 :
 Int))))).set
 (13 : Nat)
 (u8
 (IntKind.u8.wrap
 (toI
 (l.getD
 (6 : Nat)
 V.undef))))).set
 (14 : Nat)
 (u8
 (IntKind.u8.wrap
 ((toI
 (l.getD
 (7 : Nat)
 V.undef)).fdiv
 (256 : Int))))).set
 (15 : Nat)
 (u8
 (IntKind.u8.wrap
 (toI
 (l.getD (7 : Nat)
 V.undef))))))
 else none
 else
 some
 (V.barr (16 : Nat)
 (((((((((((((((((List.replicate
 (16 :
 Nat)
 (0 :
 UInt8)).set
 (0 :
 Nat)
 (u8
 (IntKind.u8.wrap
 ((toI
 (l.getD
 (0 :
 Nat)
 V.undef)).fdiv
 (256 :
 Int))))).set
 (1 :
 Nat)
 (u8
 (IntKind.u8.wrap
 (toI
 (l.getD
 (0 :
 Nat)
 V.undef))))).set
 (2 :
 Nat)
 (u8
 (IntKind.u8.wrap
 ((toI
 (l.getD
 (1 :
 Nat)
 V.undef)).fdiv
 (256 :
 Int))))).set
 (3 :
 Nat)
 (u8
 (IntKind.u8.wrap
 (toI
 (l.getD
 (1 :
 Nat)
 V.undef))))).set
 (4 :
 Nat)
 (u8
 (IntKind.u8.wrap
 ((toI
 (l.getD
 (2 :
 Nat)
 V.undef)).fdiv
 (256 :
 Int))))).set
 (5 :
 Nat)
 (u8
 (IntKind.u8.wrap
 (toI
 (l.getD
 (2 :
 Nat)
 V.undef))))).set
 (6 :
 Nat)
 (u8
 (IntKind.u8.wrap
 ((toI
 (l.getD
 (3 :
 Nat)
 V.undef)).fdiv
 (256 :
 Int))))).set
 (7 :
 Nat)
 (u8
 (IntKind.u8.wrap
 (toI
 (l.getD
 (3 :
 Nat)
 V.undef))))).set
 (8 :
 Nat)
 (u8
 (IntKind.u8.wrap
 ((toI
 (l.getD
 (4 :
 Nat)
 V.undef)).fdiv
 (256 :
 Int))))).set
 (9 : Nat)
 (u8
 (IntKind.u8.wrap
 (toI
 (l.getD
 (4 :
 Nat)
 V.undef))))).set
 (10 : Nat)
 (u8
 (IntKind.u8.wrap
 ((toI
 (l.getD
 (5 :
 Nat)
 V.undef)).fdiv
 (256 :
 Int))))).set
 (11 : Nat)
 (u8
 (IntKind.u8.wrap
 (toI
 (l.getD
 (5 : Nat)
 V.undef))))).set
 (12 : Nat)
 (u8
 (IntKind.u8.wrap
 ((toI
 (l.getD
 (6 : Nat)
 V.undef)).fdiv
 (256 :
 Int))))).set
 (13 : Nat)
 (u8
 (IntKind.u8.wrap
 (toI
 (l.getD (6 : Nat)
 V.undef))))).set
 (14 : Nat)
 (u8
 (IntKind.u8.wrap
 ((toI
 (l.getD (7 : Nat)
 V.undef)).fdiv
 (256 : Int))))).set
 (15 : Nat)
 (u8
 (IntKind.u8.wrap
 (toI
 (l.getD (7 : Nat)
 V.undef))))))
 else none
 else
 some
 (V.barr (16 : Nat)
 (((((((((((((((((List.replicate
 (16 :
 Nat)
 (0 :
 UInt8)).set
 (0 :
 Nat)
 (u8
 (IntKind.u8.wrap
 ((toI
 (l.getD
 (0 :
 Nat)
 V.undef)).fdiv
 (256 :
 Int))))).set
 (1 :
 Nat)
 (u8
 (IntKind.u8.wrap
 (toI
 (l.getD
 (0 :
 Nat)
 V.undef))))).set
 (2 :
 Nat)
 (u8
 (IntKind.u8.wrap
 ((toI
 (l.getD
 (1 :
 Nat)
 V.undef)).fdiv
 (256 :
 Int))))).set
 (3 :
 Nat)
 (u8
 (IntKind.u8.wrap
 (toI
 (l.getD
 (1 :
 Nat)
 V.undef))))).set
 (4 :
 Nat)
 (u8
 (IntKind.u8.wrap
 ((toI
 (l.getD
 (2 :
 Nat)
 V.undef)).fdiv
 (256 :
 Int))))).set
 (5 :
 Nat)
 (u8
 (IntKind.u8.wrap
 (toI
 (l.getD
 (2 :
 Nat)
 V.undef))))).set
 (6 :
 Nat)
 (u8
 (IntKind.u8.wrap
 ((toI
 (l.getD
 (3 :
 Nat)
 V.undef)).fdiv
 (256 :
 Int))))).set
 (7 :
 Nat)
 (u8
 (IntKind.u8.wrap
 (toI
 (l.getD
 (3 :
 Nat)
 V.undef))))).set
 (8 : Nat)
 (u8
 (IntKind.u8.wrap
 ((toI
 (l.getD
 (4 :
 Nat)
 V.undef)).fdiv
 (256 :
 Int))))).set
 (9 : Nat)
 (u8
 (IntKind.u8.wrap
 (toI
 (l.getD
 (4 :
 Nat)
 V.undef))))).set
 (10 : Nat)
 (u8
 (IntKind.u8.wrap
 ((toI
 (l.getD
 (5 :
 Nat)
 V.undef)).fdiv
 (256 :
 Int))))).set
 (11 : Nat)
 (u8
 (IntKind.u8.wrap
 (toI
 (l.getD
 (5 : Nat)
 V.undef))))).set
 (12 : Nat)
 (u8
 (IntKind.u8.wrap
 ((toI
 (l.getD
 (6 : Nat)
 V.undef)).fdiv
 (256 : Int))))).set
 (13 : Nat)
 (u8
 (IntKind.u8.wrap
 (toI
 (l.getD (6 : Nat)
 V.undef))))).set
 (14 : Nat)
 (u8
 (IntKind.u8.wrap
 ((toI
 (l.getD (7 : Nat)
 V.undef)).fdiv
 (256 : Int))))).set
 (15 : Nat)
 (u8
 (IntKind.u8.wrap
 (toI
 (l.getD (7 : Nat) V.undef))))))
 else none
 else
 some
 (V.barr (16 : Nat)
 (((((((((((((((((List.replicate (16 : Nat)
 (0 :
 UInt8)).set
 (0 :
 Nat)
 (u8
 (IntKind.u8.wrap
 ((toI
 (l.getD
 (0 :
 Nat)
 V.undef)).fdiv
 (256 :
 Int))))).set
 (1 :
 Nat)
 (u8
 (IntKind.u8.wrap
 (toI
 (l.getD
 (0 :
 Nat)
 V.undef))))).set
 (2 :
 Nat)
 (u8
 (IntKind.u8.wrap
 ((toI
 (l.getD
 (1 :
 Nat)
 V.undef)).fdiv
 (256 :
 Int))))).set
 (3 :
 Nat)
 (u8
 (IntKind.u8.wrap
 (toI
 (l.getD
 (1 :
 Nat)
 V.undef))))).set
 (4 :
 Nat)
 (u8
 (IntKind.u8.wrap
 ((toI
 (l.getD
 (2 :
 Nat)
 V.undef)).fdiv
 (256 :
 Int))))).set
 (5 :
 Nat)
 (u8
 (IntKind.u8.wrap
 (toI
 (l.getD
 (2 :
 Nat)
 V.undef))))).set
 (6 :
 Nat)
 (u8
 (IntKind.u8.wrap
 ((toI
 (l.getD
 (3 :
 Nat)
 V.undef)).fdiv
 (256 :
 Int))))).set
 (7 : Nat)
 (u8
 (IntKind.u8.wrap
 (toI
 (l.getD
 (3 :
 Nat)
 V.undef))))).set
 (8 : Nat)
 (u8
 (IntKind.u8.wrap
 ((toI
 (l.getD
 (4 :
 Nat)
 V.undef)).fdiv
 (256 :
 Int))))).set
 (9 : Nat)
 (u8
 (IntKind.u8.wrap
 (toI
 (l.getD
 (4 : Nat)
 V.undef))))).set
 (10 : Nat)
 (u8
 (IntKind.u8.wrap
 ((toI
 (l.getD
 (5 : Nat)
 V.undef)).fdiv
 (256 :
 Int))))).set
 (11 : Nat)
 (u8
 (IntKind.u8.wrap
 (toI
 (l.getD (5 : Nat)
 V.undef))))).set
 (12 : Nat)
 (u8
 (IntKind.u8.wrap
 ((toI
 (l.getD (6 : Nat)
 V.undef)).fdiv
 (256 : Int))))).set
 (13 : Nat)
 (u8
 (IntKind.u8.wrap
 (toI
 (l.getD (6 : Nat)
 V.undef))))).set
 (14 : Nat)
 (u8
 (IntKind.u8.wrap
 ((toI
 (l.getD (7 : Nat)
 V.undef)).fdiv
 (256 : Int))))).set
 (15 : Nat)
 (u8
 (IntKind.u8.wrap
 (toI (l.getD (7 : Nat) V.undef))))))
 else none
 else
 some
 (V.barr (16 : Nat)
 (((((((((((((((((List.replicate (16 : Nat)
 (0 :
 UInt8)).set
 (0 :
 Nat)
 (u8
 (IntKind.u8.wrap
 ((toI
 (l.getD
 (0 :
 Nat)
 V.undef)).fdiv
 (256 :
 Int))))).set
 (1 :
 Nat)
 (u8
 (IntKind.u8.wrap
 (toI
 (l.getD
 (0 :
 Nat)
 V.undef))))).set
 (2 :
 Nat)
 (u8
 (IntKind.u8.wrap
 ((toI
 (l.getD
 (1 :
 Nat)
 V.undef)).fdiv
 (256 :
 Int))))).set
 (3 :
 Nat)
 (u8
 (IntKind.u8.wrap
 (toI
 (l.getD
 (1 :
 Nat)
 V.undef))))).set
 (4 :
 Nat)
 (u8
 (IntKind.u8.wrap
 ((toI
 (l.getD
 (2 :
 Nat)
 V.undef)).fdiv
 (256 :
 Int))))).set
 (5 :
 Nat)
 (u8
 (IntKind.u8.wrap
 (toI
 (l.getD
 (2 :
 Nat)
 V.undef))))).set
 (6 : Nat)
 (u8
 (IntKind.u8.wrap
 ((toI
 (l.getD
 (3 :
 Nat)
 V.undef)).fdiv
 (256 :
 Int))))).set
 (7 : Nat)
 (u8
 (IntKind.u8.wrap
 (toI
 (l.getD
 (3 :
 Nat)
 V.undef))))).set
 (8 : Nat)
 (u8
 (IntKind.u8.wrap
 ((toI
 (l.getD
 (4 :
 Nat)
 V.undef)).fdiv
 (256 :
 Int))))).set
 (9 : Nat)
 (u8
 (IntKind.u8.wrap
 (toI
 (l.getD
 (4 : Nat)
 V.undef))))).set
 (10 : Nat)
 (u8
 (IntKind.u8.wrap
 ((toI
 (l.getD
 (5 : Nat)
 V.undef)).fdiv
 (256 : Int))))).set
 (11 : Nat)
 (u8
 (IntKind.u8.wrap
 (toI
 (l.getD (5 : Nat)
 V.undef))))).set
 (12 : Nat)
 (u8
 (IntKind.u8.wrap
 ((toI
 (l.getD (6 : Nat)
 V.undef)).fdiv
 (256 : Int))))).set
 (13 : Nat)
 (u8
 (IntKind.u8.wrap
 (toI
 (l.getD (6 : Nat)
 V.undef))))).set
 (14 : Nat)
 (u8
 (IntKind.u8.wrap
 ((toI (l.getD (7 : Nat) V.undef)).fdiv
 (256 : Int))))).set
 (15 : Nat)
 (u8
 (IntKind.u8.wrap
 (toI (l.getD (7 : Nat) V.undef))))))
 else none
 else
 some
 (V.barr (16 : Nat)
 (((((((((((((((((List.replicate (16 : Nat)
 (0 :
 UInt8)).set
 (0 :
 Nat)
 (u8
 (IntKind.u8.wrap
 ((toI
 (l.getD
 (0 :
 Nat)
 V.undef)).fdiv
 (256 :
 Int))))).set
 (1 :
 Nat)
 (u8
 (IntKind.u8.wrap
 (toI
 (l.getD
 (0 :
 Nat)
 V.undef))))).set
 (2 :
 Nat)
 (u8
 (IntKind.u8.wrap
 ((toI
 (l.getD
 (1 :
 Nat)
 V.undef)).fdiv
 (256 :
 Int))))).set
 (3 :
 Nat)
 (u8
 (IntKind.u8.wrap
 (toI
 (l.getD
 (1 :
 Nat)
 V.undef))))).set
 (4 :
 Nat)
 (u8
 (IntKind.u8.wrap
 ((toI
 (l.getD
 (2 :
 Nat)
 V.undef)).fdiv
 (256 :
 Int))))).set
 (5 : Nat)
 (u8
 (IntKind.u8.wrap
 (toI
 (l.getD
 (2 :
 Nat)
 V.undef))))).set
 (6 : Nat)
 (u8
 (IntKind.u8.wrap
 ((toI
 (l.getD
 (3 :
 Nat)
 V.undef)).fdiv
 (256 :
 Int))))).set
 (7 : Nat)
 (u8
 (IntKind.u8.wrap
 (toI
 (l.getD
 (3 : Nat)
 V.undef))))).set
 (8 : Nat)
 (u8
 (IntKind.u8.wrap
 ((toI
 (l.getD
 (4 : Nat)
 V.undef)).fdiv
 (256 :
 Int))))).set
 (9 : Nat)
 (u8
 (IntKind.u8.wrap
 (toI
 (l.getD (4 : Nat)
 V.undef))))).set
 (10 : Nat)
 (u8
 (IntKind.u8.wrap
 ((toI
 (l.getD (5 : Nat)
 V.undef)).fdiv
 (256 : Int))))).set
 (11 : Nat)
 (u8
 (IntKind.u8.wrap
 (toI
 (l.getD (5 : Nat)
 V.undef))))).set
 (12 : Nat)
 (u8
 (IntKind.u8.wrap
 ((toI
 (l.getD (6 : Nat)
 V.undef)).fdiv
 (256 : Int))))).set
 (13 : Nat)
 (u8
 (IntKind.u8.wrap
 (toI
 (l.getD (6 : Nat) V.undef))))).set
 (14 : Nat)
 (u8
 (IntKind.u8.wrap
 ((toI (l.getD (7 : Nat) V.undef)).fdiv
 (256 : Int))))).set
 (15 : Nat)
 (u8
 (IntKind.u8.wrap
 (toI (l.getD (7 : Nat) V.undef))))))
 else none
 else
 some
 (V.barr (16 : Nat)
 (((((((((((((((((List.replicate (16 : Nat)
 (0 :
 UInt8)).set
 (0 :
 Nat)
 (u8
 (IntKind.u8.wrap
 ((toI
 (l.getD
 (0 :
 Nat)
 V.undef)).fdiv
 (256 :
 Int))))).set
 (1 :
 Nat)
 (u8
 (IntKind.u8.wrap
 (toI
 (l.getD
 (0 :
 Nat)
 V.undef))))).set
 (2 :
 Nat)
 (u8
 (IntKind.u8.wrap
 ((toI
 (l.getD
 (1 :
 Nat)
 V.undef)).fdiv
 (256 :
 Int))))).set
 (3 :
 Nat)
 (u8
 (IntKind.u8.wrap
 (toI
 (l.getD
 (1 :
 Nat)
 V.undef))))).set
 (4 : Nat)
 (u8
 (IntKind.u8.wrap
 ((toI
 (l.getD
 (2 :
 Nat)
 V.undef)).fdiv
 (256 :
 Int))))).set
 (5 : Nat)
 (u8
 (IntKind.u8.wrap
 (toI
 (l.getD
 (2 :
 Nat)
 V.undef))))).set
 (6 : Nat)
 (u8
 (IntKind.u8.wrap
 ((toI
 (l.getD
 (3 :
 Nat)
 V.undef)).fdiv
 (256 :
 Int))))).set
 (7 : Nat)
 (u8
 (IntKind.u8.wrap
 (toI
 (l.getD
 (3 : Nat)
 V.undef))))).set
 (8 : Nat)
 (u8
 (IntKind.u8.wrap
 ((toI
 (l.getD
 (4 : Nat)
 V.undef)).fdiv
 (256 : Int))))).set
 (9 : Nat)
 (u8
 (IntKind.u8.wrap
 (toI
 (l.getD (4 : Nat)
 V.undef))))).set
 (10 : Nat)
 (u8
 (IntKind.u8.wrap
 ((toI
 (l.getD (5 : Nat)
 V.undef)).fdiv
 (256 : Int))))).set
 (11 : Nat)
 (u8
 (IntKind.u8.wrap
 (toI
 (l.getD (5 : Nat)
 V.undef))))).set
 (12 : Nat)
 (u8
 (IntKind.u8.wrap
 ((toI (l.getD (6 : Nat) V.undef)).fdiv
 (256 : Int))))).set
 (13 : Nat)
 (u8
 (IntKind.u8.wrap
 (toI (l.getD (6 : Nat) V.undef))))).set
 (14 : Nat)
 (u8
 (IntKind.u8.wrap
 ((toI (l.getD (7 : Nat) V.undef)).fdiv
 (256 : Int))))).set
 (15 : Nat)
 (u8
 (IntKind.u8.wrap
 (toI (l.getD (7 : Nat) V.undef))))))
 else none
 else
 some
 (V.barr (16 : Nat)
 (((((((((((((((((List.replicate (16 : Nat) (0 : UInt8)).set
 (0 :
 Nat)
 (u8
 (IntKind.u8.wrap
 ((toI
 (l.getD
 (0 :
 Nat)
 V.undef)).fdiv
 (256 :
 Int))))).set
 (1 :
 Nat)
 (u8
 (IntKind.u8.wrap
 (toI
 (l.getD
 (0 :
 Nat)
 V.undef))))).set
 (2 :
 Nat)
 (u8
 (IntKind.u8.wrap
 ((toI
 (l.getD
 (1 :
 Nat)
 V.undef)).fdiv
 (256 :
 Int))))).set
 (3 : Nat)
 (u8
 (IntKind.u8.wrap
 (toI
 (l.getD
 (1 :
 Nat)
 V.undef))))).set
 (4 : Nat)
 (u8
 (IntKind.u8.wrap
 ((toI
 (l.getD
 (2 :
 Nat)
 V.undef)).fdiv
 (256 :
 Int))))).set
 (5 : Nat)
 (u8
 (IntKind.u8.wrap
 (toI
 (l.getD
 (2 : Nat)
 V.undef))))).set
 (6 : Nat)
 (u8
 (IntKind.u8.wrap
 ((toI
 (l.getD
 (3 : Nat)
 V.undef)).fdiv
 (256 :
 Int))))).set
 (7 : Nat)
 (u8
 (IntKind.u8.wrap
 (toI
 (l.getD (3 : Nat)
 V.undef))))).set
 (8 : Nat)
 (u8
 (IntKind.u8.wrap
 ((toI
 (l.getD (4 : Nat)
 V.undef)).fdiv
 (256 : Int))))).set
 (9 : Nat)
 (u8
 (IntKind.u8.wrap
 (toI
 (l.getD (4 : Nat)
 V.undef))))).set
 (10 : Nat)
 (u8
 (IntKind.u8.wrap
 ((toI
 (l.getD (5 : Nat)
 V.undef)).fdiv
 (256 : Int))))).set
 (11 : Nat)
 (u8
 (IntKind.u8.wrap
 (toI
 (l.getD (5 : Nat) V.undef))))).set
 (12 : Nat)
 (u8
 (IntKind.u8.wrap
 ((toI (l.getD (6 : Nat) V.undef)).fdiv
 (256 : Int))))).set
 (13 : Nat)
 (u8
 (IntKind.u8.wrap
 (toI (l.getD (6 : Nat) V.undef))))).set
 (14 : Nat)
 (u8
 (IntKind.u8.wrap
 ((toI (l.getD (7 : Nat) V.undef)).fdiv
 (256 : Int))))).set
 (15 : Nat)
 (u8 (IntKind.u8.wrap (toI (l.getD (7 : Nat) V.undef))))))
 else none
 else
 some
 (V.barr (16 : Nat)
 (((((((((((((((((List.replicate (16 : Nat) (0 : UInt8)).set
 (0 :
 Nat)
 (u8
 (IntKind.u8.wrap
 ((toI
 (l.getD
 (0 :
 Nat)
 V.undef)).fdiv
 (256 :
 Int))))).set
 (1 :
 Nat)
 (u8
 (IntKind.u8.wrap
 (toI
 (l.getD
 (0 :
 Nat)
 V.undef))))).set
 (2 : Nat)
 (u8
 (IntKind.u8.wrap
 ((toI
 (l.getD
 (1 :
 Nat)
 V.undef)).fdiv
 (256 :
 Int))))).set
 (3 : Nat)
 (u8
 (IntKind.u8.wrap
 (toI
 (l.getD
 (1 :
 Nat)
 V.undef))))).set
 (4 : Nat)
 (u8
 (IntKind.u8.wrap
 ((toI
 (l.getD
 (2 :
 Nat)
 V.undef)).fdiv
 (256 :
 Int))))).set
 (5 : Nat)
 (u8
 (IntKind.u8.wrap
 (toI
 (l.getD
 (2 : Nat)
 V.undef))))).set
 (6 : Nat)
 (u8
 (IntKind.u8.wrap
 ((toI
 (l.getD
 (3 : Nat)
 V.undef)).fdiv
 (256 : Int))))).set
 (7 : Nat)
 (u8
 (IntKind.u8.wrap
 (toI
 (l.getD (3 : Nat)
 V.undef))))).set
 (8 : Nat)
 (u8
 (IntKind.u8.wrap
 ((toI
 (l.getD (4 : Nat)
 V.undef)).fdiv
 (256 : Int))))).set
 (9 : Nat)
 (u8
 (IntKind.u8.wrap
 (toI
 (l.getD (4 : Nat)
 V.undef))))).set
 (10 : Nat)
 (u8
 (IntKind.u8.wrap
 ((toI (l.getD (5 : Nat) V.undef)).fdiv
 (256 : Int))))).set
 (11 : Nat)
 (u8
 (IntKind.u8.wrap
 (toI (l.getD (5 : Nat) V.undef))))).set
 (12 : Nat)
 (u8
 (IntKind.u8.wrap
 ((toI (l.getD (6 : Nat) V.undef)).fdiv
 (256 : Int))))).set
 (13 : Nat)
 (u8
 (IntKind.u8.wrap
 (toI (l.getD (6 : Nat) V.undef))))).set
 (14 : Nat)
 (u8
 (IntKind.u8.wrap
 ((toI (l.getD (7 : Nat) V.undef)).fdiv
 (256 : Int))))).set
 (15 : Nat)
 (u8 (IntKind.u8.wrap (toI (l.getD (7 : Nat) V.undef))))))
 else none
 else
 some
 (V.barr (16 : Nat)
 (((((((((((((((((List.replicate (16 : Nat) (0 : UInt8)).set
 (0 :
 Nat)
 (u8
 (IntKind.u8.wrap
 ((toI
 (l.getD
 (0 :
 Nat)
 V.undef)).fdiv
 (256 :
 Int))))).set
 (1 : Nat)
 (u8
 (IntKind.u8.wrap
 (toI
 (l.getD
 (0 :
 Nat)
 V.undef))))).set
 (2 : Nat)
 (u8
 (IntKind.u8.wrap
 ((toI
 (l.getD
 (1 :
 Nat)
 V.undef)).fdiv
 (256 :
 Int))))).set
 (3 : Nat)
 (u8
 (IntKind.u8.wrap
 (toI
 (l.getD
 (1 : Nat)
 V.undef))))).set
 (4 : Nat)
 (u8
 (IntKind.u8.wrap
 ((toI
 (l.getD
 (2 : Nat)
 V.undef)).fdiv
 (256 :
 Int))))).set
 (5 : Nat)
 (u8
 (IntKind.u8.wrap
 (toI
 (l.getD (2 : Nat)
 V.undef))))).set
 (6 : Nat)
 (u8
 (IntKind.u8.wrap
 ((toI
 (l.getD (3 : Nat)
 V.undef)).fdiv
 (256 : Int))))).set
 (7 : Nat)
 (u8
 (IntKind.u8.wrap
 (toI
 (l.getD (3 : Nat)
 V.undef))))).set
 (8 : Nat)
 (u8
 (IntKind.u8.wrap
 ((toI
 (l.getD (4 : Nat)
 V.undef)).fdiv
 (256 : Int))))).set
 (9 : Nat)
 (u8
 (IntKind.u8.wrap
 (toI
 (l.getD (4 : Nat) V.undef))))).set
 (10 : Nat)
 (u8
 (IntKind.u8.wrap
 ((toI (l.getD (5 : Nat) V.undef)).fdiv
 (256 : Int))))).set
 (11 : Nat)
 (u8
 (IntKind.u8.wrap
 (toI (l.getD (5 : Nat) V.undef))))).set
 (12 : Nat)
 (u8
 (IntKind.u8.wrap
 ((toI (l.getD (6 : Nat) V.undef)).fdiv
 (256 : Int))))).set
 (13 : Nat)
 (u8
 (IntKind.u8.wrap (toI (l.getD (6 : Nat) V.undef))))).set
 (14 : Nat)
 (u8
 (IntKind.u8.wrap
 ((toI (l.getD (7 : Nat) V.undef)).fdiv (256 : Int))))).set
 (15 : Nat)
 (u8 (IntKind.u8.wrap (toI (l.getD (7 : Nat) V.undef))))))
 else none
 else
 some
 (V.barr (16 : Nat)
 (((((((((((((((((List.replicate (16 : Nat) (0 : UInt8)).set (0 : Nat)
 (u8
 (IntKind.u8.wrap
 ((toI
 (l.getD
 (0 :
 Nat)
 V.undef)).fdiv
 (256 :
 Int))))).set
 (1 : Nat)
 (u8
 (IntKind.u8.wrap
 (toI
 (l.getD
 (0 :
 Nat)
 V.undef))))).set
 (2 : Nat)
 (u8
 (IntKind.u8.wrap
 ((toI
 (l.getD
 (1 :
 Nat)
 V.undef)).fdiv
 (256 :
 Int))))).set
 (3 : Nat)
 (u8
 (IntKind.u8.wrap
 (toI
 (l.getD
 (1 : Nat)
 V.undef))))).set
 (4 : Nat)
 (u8
 (IntKind.u8.wrap
 ((toI
 (l.getD
 (2 : Nat)
 V.undef)).fdiv
 (256 : Int))))).set
 (5 : Nat)
 (u8
 (IntKind.u8.wrap
 (toI
 (l.getD (2 : Nat)
 V.undef))))).set
 (6 : Nat)
 (u8
 (IntKind.u8.wrap
 ((toI
 (l.getD (3 : Nat)
 V.undef)).fdiv
 (256 : Int))))).set
 (7 : Nat)
 (u8
 (IntKind.u8.wrap
 (toI
 (l.getD (3 : Nat)
 V.undef))))).set
 (8 : Nat)
 (u8
 (IntKind.u8.wrap
 ((toI (l.getD (4 : Nat) V.undef)).fdiv
 (256 : Int))))).set
 (9 : Nat)
 (u8
 (IntKind.u8.wrap
 (toI (l.getD (4 : Nat) V.undef))))).set
 (10 : Nat)
 (u8
 (IntKind.u8.wrap
 ((toI (l.getD (5 : Nat) V.undef)).fdiv
 (256 : Int))))).set
 (11 : Nat)
 (u8
 (IntKind.u8.wrap
 (toI (l.getD (5 : Nat) V.undef))))).set
 (12 : Nat)
 (u8
 (IntKind.u8.wrap
 ((toI (l.getD (6 : Nat) V.undef)).fdiv
 (256 : Int))))).set
 (13 : Nat)
 (u8 (IntKind.u8.wrap (toI (l.getD (6 : Nat) V.undef))))).set
 (14 : Nat)
 (u8
 (IntKind.u8.wrap
 ((toI (l.getD (7 : Nat) V.undef)).fdiv (256 : Int))))).set
 (15 : Nat) (u8 (IntKind.u8.wrap (toI (l.getD (7 : Nat) V.undef))))))
 else none
 else
 some
 (V.barr (16 : Nat)
 (((((((((((((((((List.replicate (16 : Nat) (0 : UInt8)).set (0 : Nat)
 (u8
 (IntKind.u8.wrap
 ((toI
 (l.getD
 (0 :
 Nat)
 V.undef)).fdiv
 (256 :
 Int))))).set
 (1 : Nat)
 (u8
 (IntKind.u8.wrap
 (toI
 (l.getD
 (0 : Nat)
 V.undef))))).set
 (2 : Nat)
 (u8
 (IntKind.u8.wrap
 ((toI
 (l.getD
 (1 : Nat)
 V.undef)).fdiv
 (256 :
 Int))))).set
 (3 : Nat)
 (u8
 (IntKind.u8.wrap
 (toI
 (l.getD (1 : Nat)
 V.undef))))).set
 (4 : Nat)
 (u8
 (IntKind.u8.wrap
 ((toI
 (l.getD (2 : Nat)
 V.undef)).fdiv
 (256 : Int))))).set
 (5 : Nat)
 (u8
 (IntKind.u8.wrap
 (toI
 (l.getD (2 : Nat)
 V.undef))))).set
 (6 : Nat)
 (u8
 (IntKind.u8.wrap
 ((toI
 (l.getD (3 : Nat)
 V.undef)).fdiv
 (256 : Int))))).set
 (7 : Nat)
 (u8
 (IntKind.u8.wrap
 (toI
 (l.getD (3 : Nat) V.undef))))).set
 (8 : Nat)
 (u8
 (IntKind.u8.wrap
 ((toI (l.getD (4 : Nat) V.undef)).fdiv
 (256 : Int))))).set
 (9 : Nat)
 (u8
 (IntKind.u8.wrap
 (toI (l.getD (4 : Nat) V.undef))))).set
 (10 : Nat)
 (u8
 (IntKind.u8.wrap
 ((toI (l.getD (5 : Nat) V.undef)).fdiv
 (256 : Int))))).set
 (11 : Nat)
 (u8
 (IntKind.u8.wrap (toI (l.getD (5 : Nat) V.undef))))).set
 (12 : Nat)
 (u8
 (IntKind.u8.wrap
 ((toI (l.getD (6 : Nat) V.undef)).fdiv (256 : Int))))).set
 (13 : Nat)
 (u8 (IntKind.u8.wrap (toI (l.getD (6 : Nat) V.undef))))).set
 (14 : Nat)
 (u8
 (IntKind.u8.wrap
 ((toI (l.getD (7 : Nat) V.undef)).fdiv (256 : Int))))).set
 (15 : Nat) (u8 (IntKind.u8.wrap (toI (l.getD (7 : Nat) V.undef))))))
 else none
 else
 some
 (V.barr (16 : Nat)
 (((((((((((((((((List.replicate (16 : Nat) (0 : UInt8)).set (0 : Nat)
 (u8
 (IntKind.u8.wrap
 ((toI
 (l.getD
 (0 :
 Nat)
 V.undef)).fdiv
 (256 :
 Int))))).set
 (1 : Nat)
 (u8
 (IntKind.u8.wrap
 (toI
 (l.getD
 (0 : Nat)
 V.undef))))).set
 (2 : Nat)
 (u8
 (IntKind.u8.wrap
 ((toI
 (l.getD
 (1 : Nat)
 V.undef)).fdiv
 (256 : Int))))).set
 (3 : Nat)
 (u8
 (IntKind.u8.wrap
 (toI
 (l.getD (1 : Nat)
 V.undef))))).set
 (4 : Nat)
 (u8
 (IntKind.u8.wrap
 ((toI
 (l.getD (2 : Nat)
 V.undef)).fdiv
 (256 : Int))))).set
 (5 : Nat)
 (u8
 (IntKind.u8.wrap
 (toI
 (l.getD (2 : Nat)
 V.undef))))).set
 (6 : Nat)
 (u8
 (IntKind.u8.wrap
 ((toI (l.getD (3 : Nat) V.undef)).fdiv
 (256 : Int))))).set
 (7 : Nat)
 (u8
 (IntKind.u8.wrap
 (toI (l.getD (3 : Nat) V.undef))))).set
 (8 : Nat)
 (u8
 (IntKind.u8.wrap
 ((toI (l.getD (4 : Nat) V.undef)).fdiv
 (256 : Int))))).set
 (9 : Nat)
 (u8
 (IntKind.u8.wrap
 (toI (l.getD (4 : Nat) V.undef))))).set
 (10 : Nat)
 (u8
 (IntKind.u8.wrap
 ((toI (l.getD (5 : Nat) V.undef)).fdiv
 (256 : Int))))).set
 (11 : Nat)
 (u8 (IntKind.u8.wrap (toI (l.getD (5 : Nat) V.undef))))).set
 (12 : Nat)
 (u8
 (IntKind.u8.wrap
 ((toI (l.getD (6 : Nat) V.undef)).fdiv (256 : Int))))).set
 (13 : Nat)
 (u8 (IntKind.u8.wrap (toI (l.getD (6 : Nat) V.undef))))).set
 (14 : Nat)
 (u8
 (IntKind.u8.wrap
 ((toI (l.getD (7 : Nat) V.undef)).fdiv (256 : Int))))).set
 (15 : Nat) (u8 (IntKind.u8.wrap (toI (l.getD (7 : Nat) V.undef))))))
 else none
 else
 some
 (V.barr (16 : Nat)
 (((((((((((((((List.replicate (16 : Nat) (0 : UInt8)).set (0 : Nat)
 (u8
 (IntKind.u8.wrap
 ((toI
 (l.getD (0 : Nat)
 V.undef)).fdiv
 (256 : Int))))).set
 (1 : Nat)
 (u8
 (IntKind.u8.wrap
 (toI
 (l.getD (0 : Nat)
 V.undef))))).set
 (2 : Nat)
 (u8
 (IntKind.u8.wrap
 ((toI
 (l.getD (1 : Nat)
 V.undef)).fdiv
 (256 : Int))))).set
 (3 : Nat)
 (u8
 (IntKind.u8.wrap
 (toI
 (l.getD (1 : Nat) V.undef))))).set
 (4 : Nat)
 (u8
 (IntKind.u8.wrap
 ((toI (l.getD (2 : Nat) V.undef)).fdiv
 (256 : Int))))).set
 (5 : Nat)
 (u8
 (IntKind.u8.wrap
 (toI (l.getD (2 : Nat) V.undef))))).set
 (6 : Nat)
 (u8
 (IntKind.u8.wrap
 ((toI (l.getD (3 : Nat) V.undef)).fdiv
 (256 : Int))))).set
 (7 : Nat)
 (u8
 (IntKind.u8.wrap (toI (l.getD (3 : Nat) V.undef))))).set
 (8 : Nat)
 (u8
 (IntKind.u8.wrap
 ((toI (l.getD (4 : Nat) V.undef)).fdiv (256 : Int))))).set
 (9 : Nat)
 (u8 (IntKind.u8.wrap (toI (l.getD (4 : Nat) V.undef))))).set
 (10 : Nat)
 (u8
 (IntKind.u8.wrap
 ((toI (l.getD (5 : Nat) V.undef)).fdiv (256 : Int))))).set
 (11 : Nat) (u8 (IntKind.u8.wrap (toI (l.getD (5 : Nat) V.undef))))).set
 (12 : Nat)
 (u8
 (IntKind.u8.wrap ((toI (l.getD (6 : Nat) V.undef)).fdiv (256 : Int))))).set
 (13 : Nat) (u8 (IntKind.u8.wrap (toI (l.getD (6 : Nat) V.undef))))))
 else none
 else
 some
 (V.barr (16 : Nat)
 (((((((((((((List.replicate (16 : Nat) (0 : UInt8)).set (0 : Nat)
 (u8
 (IntKind.u8.wrap
 ((toI (l.getD (0 : Nat) V.undef)).fdiv
 (256 : Int))))).set
 (1 : Nat)
 (u8
 (IntKind.u8.wrap
 (toI (l.getD (0 : Nat) V.undef))))).set
 (2 : Nat)
 (u8
 (IntKind.u8.wrap
 ((toI (l.getD (1 : Nat) V.undef)).fdiv
 (256 : Int))))).set
 (3 : Nat)
 (u8
 (IntKind.u8.wrap
 (toI (l.getD (1 : Nat) V.undef))))).set
 (4 : Nat)
 (u8
 (IntKind.u8.wrap
 ((toI (l.getD (2 : Nat) V.undef)).fdiv
 (256 : Int))))).set
 (5 : Nat)
 (u8 (IntKind.u8.wrap (toI (l.getD (2 : Nat) V.undef))))).set
 (6 : Nat)
 (u8
 (IntKind.u8.wrap
 ((toI (l.getD (3 : Nat) V.undef)).fdiv (256 : Int))))).set
 (7 : Nat) (u8 (IntKind.u8.wrap (toI (l.getD (3 : Nat) V.undef))))).set
 (8 : Nat)
 (u8
 (IntKind.u8.wrap
 ((toI (l.getD (4 : Nat) V.undef)).fdiv (256 : Int))))).set
 (9 : Nat) (u8 (IntKind.u8.wrap (toI (l.getD (4 : Nat) V.undef))))).set
 (10 : Nat)
 (u8 (IntKind.u8.wrap ((toI (l.getD (5 : Nat) V.undef)).fdiv (256 : Int))))).set
 (11 : Nat) (u8 (IntKind.u8.wrap (toI (l.getD (5 : Nat) V.undef))))))
 else none
 else
 some
 (V.barr (16 : Nat)
 (((((((((((List.replicate (16 : Nat) (0 : UInt8)).set (0 : Nat)
 (u8
 (IntKind.u8.wrap
 ((toI (l.getD (0 : Nat) V.undef)).fdiv
 (256 : Int))))).set
 (1 : Nat)
 (u8
 (IntKind.u8.wrap (toI (l.getD (0 : Nat) V.undef))))).set
 (2 : Nat)
 (u8
 (IntKind.u8.wrap
 ((toI (l.getD (1 : Nat) V.undef)).fdiv (256 : Int))))).set
 (3 : Nat)
 (u8 (IntKind.u8.wrap (toI (l.getD (1 : Nat) V.undef))))).set
 (4 : Nat)
 (u8
 (IntKind.u8.wrap
 ((toI (l.getD (2 : Nat) V.undef)).fdiv (256 : Int))))).set
 (5 : Nat) (u8 (IntKind.u8.wrap (toI (l.getD (2 : Nat) V.undef))))).set
 (6 : Nat)
 (u8
 (IntKind.u8.wrap ((toI (l.getD (3 : Nat) V.undef)).fdiv (256 : Int))))).set
 (7 : Nat) (u8 (IntKind.u8.wrap (toI (l.getD (3 : Nat) V.undef))))).set
 (8 : Nat)
 (u8 (IntKind.u8.wrap ((toI (l.getD (4 : Nat) V.undef)).fdiv (256 : Int))))).set
 (9 : Nat) (u8 (IntKind.u8.wrap (toI (l.getD (4 : Nat) V.undef))))))
 else none
 else
 some
 (V.barr (16 : Nat)
 (((((((((List.replicate (16 : Nat) (0 : UInt8)).set (0 : Nat)
 (u8
 (IntKind.u8.wrap
 ((toI (l.getD (0 : Nat) V.undef)).fdiv (256 : Int))))).set
 (1 : Nat) (u8 (IntKind.u8.wrap (toI (l.getD (0 : Nat) V.undef))))).set
 (2 : Nat)
 (u8
 (IntKind.u8.wrap
 ((toI (l.getD (1 : Nat) V.undef)).fdiv (256 : Int))))).set
 (3 : Nat) (u8 (IntKind.u8.wrap (toI (l.getD (1 : Nat) V.undef))))).set
 (4 : Nat)
 (u8 (IntKind.u8.wrap ((toI (l.getD (2 : Nat) V.undef)).fdiv (256 : Int))))).set
 (5 : Nat) (u8 (IntKind.u8.wrap (toI (l.getD (2 : Nat) V.undef))))).set
 (6 : Nat) (u8 (IntKind.u8.wrap ((toI (l.getD (3 : Nat) V.undef)).fdiv (256 : Int))))).set
 (7 : Nat) (u8 (IntKind.u8.wrap (toI (l.getD (3 : Nat) V.undef))))))
 else none
 else
 some
 (V.barr (16 : Nat)
 (((((((List.replicate (16 : Nat) (0 : UInt8)).set (0 : Nat)
 (u8
 (IntKind.u8.wrap ((toI (l.getD (0 : Nat) V.undef)).fdiv (256 : Int))))).set
 (1 : Nat) (u8 (IntKind.u8.wrap (toI (l.getD (0 : Nat) V.undef))))).set
 (2 : Nat)
 (u8 (IntKind.u8.wrap ((toI (l.getD (1 : Nat) V.undef)).fdiv (256 : Int))))).set
 (3 : Nat) (u8 (IntKind.u8.wrap (toI (l.getD (1 : Nat) V.undef))))).set
 (4 : Nat) (u8 (IntKind.u8.wrap ((toI (l.getD (2 : Nat) V.undef)).fdiv (256 : Int))))).set
 (5 : Nat) (u8 (IntKind.u8.wrap (toI (l.getD (2 : Nat) V.undef))))))
 else none
 else
 some
 (V.barr (16 : Nat)
 (((((List.replicate (16 : Nat) (0 : UInt8)).set (0 : Nat)
 (u8 (IntKind.u8.wrap ((toI (l.getD (0 : Nat) V.undef)).fdiv (256 : Int))))).set
 (1 : Nat) (u8 (IntKind.u8.wrap (toI (l.getD (0 : Nat) V.undef))))).set
 (2 : Nat) (u8 (IntKind.u8.wrap ((toI (l.getD (1 : Nat) V.undef)).fdiv (256 : Int))))).set
 (3 : Nat) (u8 (IntKind.u8.wrap (toI (l.getD (1 : Nat) V.undef))))))
 else none
 else
 some
 (V.barr (16 : Nat)
 (((List.replicate (16 : Nat) (0 : UInt8)).set (0 : Nat)
 (u8 (IntKind.u8.wrap ((toI (l.getD (0 : Nat) V.undef)).fdiv (256 : Int))))).set
 (1 : Nat) (u8 (IntKind.u8.wrap (toI (l.getD (0 : Nat) V.undef))))))
 else none
 else some (V.barr (16 : Nat) (List.replicate (16 : Nat) (0 : UInt8))) := by kernel_rfl

theorem u8w (x : Int) : u8 (IntKind.u8.wrap x) = b8 x := by unfold u8 b8; rw [IntKind.wrap_u8]
theorem fd256 (x : Int) : x.fdiv 256 = x / 256 := by rw [Int.fdiv_eq_ediv_of_nonneg _ (by decide)]
theorem adOf_v (l : List V) (h : l.length ≤ 20) : callV Eadof af_adOf [.rows (.int .i64) l] = some (.barr 16 (ofL l)) := by
  rw [adOf_t]
  simp only [u8w, fd256]
  rcases l with _ | ⟨a0, l⟩
  · kernel_rfl
  rcases l with _ | ⟨a1, l⟩
  · kernel_rfl
  rcases l with _ | ⟨a2, l⟩
  · kernel_rfl
  rcases l with _ | ⟨a3, l⟩
  · kernel_rfl
  rcases l with _ | ⟨a4, l⟩
  · kernel_rfl
  rcases l with _ | ⟨a5, l⟩
  · kernel_rfl
  rcases l with _ | ⟨a6, l⟩
  · kernel_rfl
  rcases l with _ | ⟨a7, l⟩
  · kernel_rfl
  rcases l with _ | ⟨a8, l⟩
  · kernel_rfl
  rcases l with _ | ⟨a9, l⟩
  · kernel_rfl
  rcases l with _ | ⟨a10, l⟩
  · kernel_rfl
  rcases l with _ | ⟨a11, l⟩
  · kernel_rfl
  rcases l with _ | ⟨a12, l⟩
  · kernel_rfl
  rcases l with _ | ⟨a13, l⟩
  · kernel_rfl
  rcases l with _ | ⟨a14, l⟩
  · kernel_rfl
  rcases l with _ | ⟨a15, l⟩
  · kernel_rfl
  rcases l with _ | ⟨a16, l⟩
  · kernel_rfl
  rcases l with _ | ⟨a17, l⟩
  · kernel_rfl
  rcases l with _ | ⟨a18, l⟩
  · kernel_rfl
  rcases l with _ | ⟨a19, l⟩
  · kernel_rfl
  rcases l with _ | ⟨a20, l⟩
  · kernel_rfl
  simp at h
def cAdOf : List V → Option (V × Bool)
  | [.rows (.int .i64) l] => some (.barr 16 (ofL l), decide (l.length ≤ 20))
  | _ => none
theorem adOf_con : ∀ vs v, cAdOf vs = some (v, true) → SpecV Tryd.prog 12 vs v := by
  intro vs v h; unfold cAdOf at h; split at h
  · rename_i l
    injection h with h; injection h with h hb; subst h
    exact callV_ok Eadof_ok af_adOf_ok (adOf_v _ (of_decide_eq_true hb))
  · cases h
noncomputable def af_adGroups : AF := afOf Tryd.prog Tryd.f27 [.unr 9]
theorem af_adGroups_ok : AllOk Tryd.prog 27 af_adGroups := .flat Tryd.func27 (by kernel_rfl) (by kernel_rfl) (by kernel_rfl) (by kernel_rfl) (by kernel_rfl)
noncomputable def GEadgs : List (Nat × Con) := [(34, .val [.str] cGroup), (33, .val [.str, .str] cStrSplit)]
theorem GEadgs_ok : GOk Tryd.prog GEadgs := .cons (enters_of Tryd.func34 (by kernel_rfl) rfl) group_con <| .cons (enters_of Tryd.func33 (by kernel_rfl) rfl) xSplit_con <| .nil
noncomputable def IEadgs : List (Nat × AF) := []
theorem IEadgs_ok : IOk Tryd.prog IEadgs := .nil
noncomputable def CEadgs : List (Nat × (List Nat × (S → Option (Bool × Tr)))) := []
theorem CEadgs_ok : COk Tryd.prog CEadgs := .nil
noncomputable def XEadgs : List (Nat × (List Sh × (List V → PT))) := []
theorem XEadgs_ok : XOk Tryd.prog XEadgs := .nil
noncomputable def Eadgs : Env := ⟨Tryd.prog, GEadgs, IEadgs, CEadgs, XEadgs⟩
theorem Eadgs_ok : EnvOk Eadgs := ⟨by kernel_rfl, GEadgs_ok, IEadgs_ok, CEadgs_ok, XEadgs_ok⟩
theorem groups12 : callV Eadgs af_adGroups [.str [49, 58, 50]] = some (.tup [.ownv 3 (.rows (.int .i64) [.int .i64 1, .int .i64 2]), .bool true]) := by kernel_rfl
theorem groups0 : callV Eadgs af_adGroups [.str []] = some (.tup [.ownv 3 (.rows (.int .i64) []), .bool true]) := by kernel_rfl
def cGroups12 : List V → Option (V × Bool)
  | [.str s] => if s = [49, 58, 50] then some (.tup [.ownv 3 (.rows (.int .i64) [.int .i64 1, .int .i64 2]), .bool true], true) else if s = [] then some (.tup [.ownv 3 (.rows (.int .i64) []), .bool true], true) else none
  | _ => none
theorem groups12_con : ∀ vs v, cGroups12 vs = some (v, true) → SpecV Tryd.prog 27 vs v := by
  intro vs v h; unfold cGroups12 at h; split at h
  · rename_i s
    by_cases c1 : s = [49, 58, 50]
    · subst c1; injection h with h; injection h with h hb; subst h
      exact callV_ok Eadgs_ok af_adGroups_ok groups12
    · rw [if_neg c1] at h
      by_cases c2 : s = []
      · subst c2; injection h with h; injection h with h hb; subst h
        exact callV_ok Eadgs_ok af_adGroups_ok groups0
      · rw [if_neg c2] at h; cases h
  · cases h
noncomputable def af_adRead : AF := afOf Tryd.prog Tryd.f14 [.unr 1]
theorem af_adRead_ok : AllOk Tryd.prog 14 af_adRead := .flat Tryd.func14 (by kernel_rfl) (by kernel_rfl) (by kernel_rfl) (by kernel_rfl) (by kernel_rfl)
noncomputable def GEadrd : List (Nat × Con) := [(26, .val [.str, .str] cStrCut), (27, .val [.str] cGroups12), (12, .val [.rows (.int .i64)] cAdOf)]
theorem GEadrd_ok : GOk Tryd.prog GEadrd := .cons (enters_of Tryd.func26 (by kernel_rfl) rfl) xCut_con <| .cons (enters_of Tryd.func27 (by kernel_rfl) rfl) groups12_con <| .cons (enters_of Tryd.func12 (by kernel_rfl) rfl) adOf_con <| .nil
noncomputable def IEadrd : List (Nat × AF) := []
theorem IEadrd_ok : IOk Tryd.prog IEadrd := .nil
noncomputable def CEadrd : List (Nat × (List Nat × (S → Option (Bool × Tr)))) := []
theorem CEadrd_ok : COk Tryd.prog CEadrd := .nil
noncomputable def XEadrd : List (Nat × (List Sh × (List V → PT))) := []
theorem XEadrd_ok : XOk Tryd.prog XEadrd := .nil
noncomputable def Eadrd : Env := ⟨Tryd.prog, GEadrd, IEadrd, CEadrd, XEadrd⟩
theorem Eadrd_ok : EnvOk Eadrd := ⟨by kernel_rfl, GEadrd_ok, IEadrd_ok, CEadrd_ok, XEadrd_ok⟩
theorem read12 : callV Eadrd af_adRead [.str [49, 58, 50]] = some (.tup [.barr 16 (List.replicate 16 0), .int .i64 5]) := by kernel_rfl
def cRead12 : List V → Option (V × Bool)
  | [.str s] => some (.tup [.barr 16 (List.replicate 16 0), .int .i64 5], decide (s = [49, 58, 50]))
  | _ => none
theorem adRead_con : ∀ vs v, cRead12 vs = some (v, true) → SpecV Tryd.prog 14 vs v := by
  intro vs v h; unfold cRead12 at h; split at h
  · rename_i s
    injection h with h; injection h with h hb; subst h
    exact callV_ok Eadrd_ok af_adRead_ok ((by obtain rfl := of_decide_eq_true hb; exact read12))
  · cases h
noncomputable def af_lives03 : AF := afOf Tryd.prog Tryd.f7 []
theorem af_lives03_ok : AllOk Tryd.prog 7 af_lives03 := .flat Tryd.func7 (by kernel_rfl) (by kernel_rfl) (by kernel_rfl) (by kernel_rfl) (by kernel_rfl)
noncomputable def GElv03 : List (Nat × Con) := [(12, .val [.rows (.int .i64)] cAdOf), (14, .val [.str] cRead12), (8, .val [.barr 16] cAdText), (19, .val [.barr 16, .barr 16] cAdLess)]
theorem GElv03_ok : GOk Tryd.prog GElv03 := .cons (enters_of Tryd.func12 (by kernel_rfl) rfl) adOf_con <| .cons (enters_of Tryd.func14 (by kernel_rfl) rfl) adRead_con <| .cons (enters_of Tryd.func8 (by kernel_rfl) rfl) adText_con <| .cons (enters_of Tryd.func19 (by kernel_rfl) rfl) adLess_con <| .nil
noncomputable def IElv03 : List (Nat × AF) := []
theorem IElv03_ok : IOk Tryd.prog IElv03 := .nil
noncomputable def CElv03 : List (Nat × (List Nat × (S → Option (Bool × Tr)))) := []
theorem CElv03_ok : COk Tryd.prog CElv03 := .nil
noncomputable def XElv03 : List (Nat × (List Sh × (List V → PT))) := []
theorem XElv03_ok : XOk Tryd.prog XElv03 := .nil
noncomputable def Elv03 : Env := ⟨Tryd.prog, GElv03, IElv03, CElv03, XElv03⟩
theorem Elv03_ok : EnvOk Elv03 := ⟨by kernel_rfl, GElv03_ok, IElv03_ok, CElv03_ok, XElv03_ok⟩
theorem lives03_t : callV Elv03 af_lives03 [] = some (.bool true) := by kernel_rfl
theorem lives03_con : ∀ vs v, cTru vs = some (v, true) → SpecV Tryd.prog 7 vs v := by
  intro vs v h; unfold cTru at h; split at h
  · injection h with h; injection h with h hb; subst h
    exact callV_ok Elv03_ok af_lives03_ok (lives03_t)
  · cases h
end Go.Proofs.YtbgfpemjdomanaaDoor
