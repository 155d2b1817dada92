/- A step calculus over the kit's 'wp': a guard in a drawn region, told once. No statement about the program is in it. -/
import Derived.Test.YtolhfimknimliaaE5
namespace Go.Ev
section
variable {P : Program} {T : Tab} {n : Nat} {R : Env → World → Prop} {fr : Fra} {S : World → Prop} {all : Array Oper} {l : List (Oper × Bool)} {k : List It} {ρ : Env} {dec : List Nat} {w : World} {o : Oper}
theorem guardHA {q : Bool} {j : Nat} {want : Bool} {t : Nat} {b : Bool} (hg : o.guard = some (j, want)) (ht : dstL all.toList j = some t) (_hd : inL t dec = false) (hb : ev n ρ (.tmp t) = .bool b)
    (hT : b = true → AtH P n R fr S all ((o, q) :: l) k (upd ρ t (.bool true)) (t :: dec) w) (hF : b = false → AtH P n R fr S all ((o, q) :: l) k (upd ρ t (.bool false)) (t :: dec) w) :
    AtH P n R fr S all ((o, q) :: l) k ρ dec w := guardH hg ht hb hT hF
theorem gTH {q : Bool} {j : Nat} {want : Bool} {t : Nat} (hg : o.guard = some (j, want)) (ht : dstL all.toList j = some t) (hd : inL t dec = false) (hb : ev n ρ (.tmp t) = .bool true) (h : AtH P n R fr S all ((o, q) :: l) k (upd ρ t (.bool true)) (t :: dec) w) : AtH P n R fr S all ((o, q) :: l) k ρ dec w := guardHA hg ht hd hb (fun _ => h) (fun e => by cases e)
theorem gFH {q : Bool} {j : Nat} {want : Bool} {t : Nat} (hg : o.guard = some (j, want)) (ht : dstL all.toList j = some t) (hd : inL t dec = false) (hb : ev n ρ (.tmp t) = .bool false) (h : AtH P n R fr S all ((o, q) :: l) k (upd ρ t (.bool false)) (t :: dec) w) : AtH P n R fr S all ((o, q) :: l) k ρ dec w := guardHA hg ht hd hb (fun e => by cases e) (fun _ => h)
end
end Go.Ev
