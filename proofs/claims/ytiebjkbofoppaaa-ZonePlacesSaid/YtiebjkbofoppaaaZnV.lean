/- Chapter 25: idset.Without; list. -/
import Derived.Test.YtiebjkbofoppaaaZnU
namespace Go.Proofs.Ytiebjkbofoppaaa
open Go Go.RowKit Go.Sort Cg
/-- The tree of a number alone. -/
theorem OwnI.rdc {B L : Nat} {w : World} {v : Value} {xs : List (List D)} (h : OwnI B w v xs) (hby : xs.length * 8 ≤ L) : RdC (fun _ => True) L w kInts v (.sl xs) := h.rd _ L hby (fun _ _ _ => trivial)
set_option maxHeartbeats 2000000 in
theorem without_prog (F : Nat → Prop) (L : Nat) (v : Value) (xs : List (List D)) (id : Int) (w : World) (h : RdC F L w kInts v (.sl xs)) (hL : L ≤ 140737488355328) :
    Calls Try.prog 63 #[v, .int .i64 id] w fun e w' => ∃ ao m c, e = .returned (.slice ao m c) ∧ OwnI w.heap.size w' (.slice ao m c) (xs.filter (fun x => !(dint x 0 == id))) ∧ Below w.heap.size w w' := by
  have hby := rd_bytes h
  obtain ⟨W0, hW0⟩ : ∃ W, W = w.alloc (.cells #[.int .i64 id] 3) := ⟨_, rfl⟩
  have b0 : Below w.heap.size w W0 := by rw [hW0]; exact (Below.refl _ _).alloc (Nat.le_refl _) _
  have hs0 : W0.heap.size = w.heap.size + 1 := by rw [hW0]; simp
  have c0 : W0.cell? ⟨w.heap.size, 0, none⟩ = some (.int .i64 id) := by
    rw [hW0]
    exact cell_of_row _ _ 0 _ _ _ (heap_alloc_new w _)
  have HC := Lib.hid (clone_own F L v xs W0 (h.old b0) hL)
  have B0 := Lib.hid b0
  have HS0 := Lib.hid hs0
  have C0 := Lib.hid c0
  have HW0 := Lib.hid hW0
  clear h b0 hs0 c0 hW0
  go_enter Try.func63, Try.ntmps63
  go_wp2_with fail
  rw [← HW0.out]
  refine HC.out.mono ?_
  rintro e w1 ⟨v1, rfl, own, b1⟩
  obtain ⟨es, ow, hes⟩ := own
  have hlen := hes.len
  have hrd : RdC (fun _ => True) L w1 kInts v1 (.sl xs) := OwnI.rdc ⟨es, ow, hes⟩ hby
  have hne : v1.ownBlock ≠ some w.heap.size := fun e => by have := (ow.lt _ e).1; have := HS0.out; omega
  have HD := Lib.hid (delfuncint (fun _ => True) (fun _ => False) L 0 W0.heap.size v1 es xs id w.heap.size w1 hrd hes hL ow ((b1.cell (p := ⟨w.heap.size, 0, none⟩) (by show w.heap.size < _; have := HS0.out; omega)).trans C0.out) hne _ rfl)
  have B1 := Lib.hid b1
  have HES := Lib.hid hes
  have OW := Lib.hid ow
  obtain ⟨ao, m, c, rfl⟩ := own_sl ow
  clear b1 hes ow hrd hne hlen
  go_wp2_with fail
  refine HD.out.mono ?_
  rintro e w2 ⟨ao2, m2, c2, rfl, hm, ow2, hsame, gr⟩
  have HM := Lib.hid hm
  have OW2 := Lib.hid ow2
  have GR := Lib.hid gr
  clear hm ow2 hsame gr
  go_wp2_with fail
  go_ret
  refine ⟨ao2, m2, c2, rfl, ⟨es.filter (fun x => !(cInt x.1 0 == id)), ?_, ?_⟩, ?_⟩
  · have := OW2.out
    rw [HM.out] at this ⊢
    exact own_low this (by have := HS0.out; omega)
  · exact Es.filter (fun x => !(dint x 0 == id)) _ (es_any (flat_ints 1) HES.out) (fun j x d h1 h2 => by
      have hr := HES.out.at_ j x d h1 h2
      rw [cInt_of (hr.int 0 rfl).1])
  · have g := GR.out
    refine ⟨g.os.trans (B1.out.os.trans B0.out.os), g.tape.trans (B1.out.tape.trans B0.out.tape), g.output.trans (B1.out.output.trans B0.out.output), Nat.le_trans (Nat.le_trans B0.out.size B1.out.size) g.size, fun k hk => ?_⟩
    have h1 := B0.out.size
    have h2 := B1.out.size
    exact (g.block k (by omega) (fun e => by have := (OW.out.lt k e.symm).1; omega)).trans ((B1.out.block k (by omega)).trans (B0.out.block k hk))
/-- Where the list of a zone lies: in the state itself or in a player. -/
def listPtr (b : Nat) (ao : Option Addr) (n : Nat) (zone player : Int) : Option Addr :=
  if zone == 0 then some ⟨b, 2, none⟩ else if zone == 4 then some ⟨b, 3, none⟩ else if player < 0 ∨ (n : Int) ≤ player then none else
    match ao with
    | some ⟨g, o, none⟩ => if zone == 1 then some ⟨g, o + player.toNat * 14 + 12, none⟩ else if zone == 2 then some ⟨g, o + player.toNat * 14 + 11, none⟩ else if zone == 3 then some ⟨g, o + player.toNat * 14 + 13, none⟩ else none
    | _ => none
set_option maxHeartbeats 2000000 in
theorem list_prog (b : Nat) (ao : Option Addr) (n c : Nat) (zone player : Int) (w : World) (h0 : w.cell? ⟨b, 0, none⟩ = some (.slice ao n c)) (hn : 0 < n → ∃ g o, ao = some ⟨g, o, none⟩) (hn63 : n ≤ 1000000000000000000) :
    Calls Try.prog 33 #[.pointer (some ⟨b, 0, none⟩), .int .i64 zone, .int .i64 player] w fun e w' => e = .returned (.pointer (listPtr b ao n zone player)) ∧ w' = w := by
  cases hz0 : zone == 0
  · cases hz4 : zone == 4
    · by_cases hp0 : player < 0
      · have hpd : (decide (player < 0)) = true := decide_eq_true hp0
        have hv : listPtr b ao n zone player = none := by unfold listPtr; simp [hz0, hz4, hp0]
        rw [hv]
        clear hv hn
        go_enter Try.func33, Try.ntmps33
        go_wp2_with fail
        go_ret
        exact ⟨rfl, rfl⟩
      · obtain ⟨p, rfl⟩ : ∃ p : Nat, player = p := ⟨player.toNat, by omega⟩
        by_cases hpn : n ≤ p
        · have hp1 : ¬ ((p : Int) < 0) := by omega
          have hp2 : ((n : Int) ≤ (p : Int)) := by omega
          have hv : listPtr b ao n zone p = none := by unfold listPtr; simp [hz0, hz4, hpn]
          rw [hv]
          clear hv hn
          go_enter Try.func33, Try.ntmps33
          go_wp2_with fail
          go_ret
          exact ⟨rfl, rfl⟩
        · obtain ⟨g, o, rfl⟩ := hn (by omega)
          have hp1 : ¬ ((p : Int) < 0) := by omega
          have hp2 : ¬ ((n : Int) ≤ (p : Int)) := by omega
          have hpl : p < n := by omega
          clear hn
          cases hz1 : zone == 1
          · cases hz2 : zone == 2
            · cases hz3 : zone == 3
              · have hv : listPtr b (some ⟨g, o, none⟩) n zone p = none := by unfold listPtr; simp [hz0, hz4, hpn, hz1, hz2, hz3]
                rw [hv]
                clear hv
                go_enter Try.func33, Try.ntmps33
                go_wp2_with fail
                go_ret
                exact ⟨rfl, rfl⟩
              · have hv : listPtr b (some ⟨g, o, none⟩) n zone p = some ⟨g, o + p * 14 + 13, none⟩ := by unfold listPtr; simp [hz0, hz4, hpn, hz1, hz2, hz3]
                rw [hv]
                clear hv
                go_enter Try.func33, Try.ntmps33
                go_wp2_with fail
                go_ret
                exact ⟨rfl, rfl⟩
            · have hv : listPtr b (some ⟨g, o, none⟩) n zone p = some ⟨g, o + p * 14 + 11, none⟩ := by unfold listPtr; simp [hz0, hz4, hpn, hz1, hz2]
              rw [hv]
              clear hv
              go_enter Try.func33, Try.ntmps33
              go_wp2_with fail
              go_ret
              exact ⟨rfl, rfl⟩
          · have hv : listPtr b (some ⟨g, o, none⟩) n zone p = some ⟨g, o + p * 14 + 12, none⟩ := by unfold listPtr; simp [hz0, hz4, hpn, hz1]
            rw [hv]
            clear hv
            go_enter Try.func33, Try.ntmps33
            go_wp2_with fail
            go_ret
            exact ⟨rfl, rfl⟩
    · have hv : listPtr b ao n zone player = some ⟨b, 3, none⟩ := by unfold listPtr; simp [hz0, hz4]
      rw [hv]
      clear hv hn
      go_enter Try.func33, Try.ntmps33
      go_wp2_with fail
      go_ret
      exact ⟨rfl, rfl⟩
  · have hv : listPtr b ao n zone player = some ⟨b, 2, none⟩ := by unfold listPtr; simp [hz0]
    rw [hv]
    clear hv hn
    go_enter Try.func33, Try.ntmps33
    go_wp2_with fail
    go_ret
    exact ⟨rfl, rfl⟩
end Go.Proofs.Ytiebjkbofoppaaa
